/- What the operations do: copy. Conditions: the types' table holds of the program. -/
import Derived.Test.YtfkejiljabmaaaaVOpL
set_option linter.unusedVariables false
set_option linter.unusedSimpArgs false
namespace Go.Proofs.Ytfkejiljabmaaaa.V
open Go

section
variable {P : Program} {tt : TT} {C : Cx} {S : St} {a : Act} {w : World} {ρ : Place} {Fs : Nat → FP} {n : Nat}

theorem run_copy_op {o : Oper} {c : Call} {s x : Operand} {t tx : TypeId} (ho : o.op = .call c) (hc : c.callee = .builtin .copy) (hargs : c.args.toList = [s, x]) (hts : c.argTypes.toList = [t, tx]) {v : Value} {w' : World} (hr : (Builtin.copy_ #[t, tx] o.type #[a.eval s, a.eval x]).run P w = .ok v w') : (execOp a.eval o).run P w = .ok (.value v) w' := by
  have e1 : c.args = #[s, x] := by apply Array.ext'; simpa using hargs
  have e2 : c.argTypes = #[t, tx] := by apply Array.ext'; simpa using hts
  simp [execOp, ho, resolve, hc, e1, e2, invoke, builtin, hr, Result.andThen]
theorem SRel.turnHole (h : SRel C S a w ρ Fs) {id : Nat} {root : Root} (hr0 : S.hp id = some root) {b cap : Nat} (hρ : ρ id = some (b, cap)) {arr arr' : Array Value} {ty : TypeId} (hb : w.heap[b]? = some (.cells arr ty (0, 0))) (e ver : Nat) (r : Row) (i f : Nat) (hi : i < r.len) (hf : f < r.size) (F : FP)
    (hc : CellsRel w (C.ZL w (sumTo S.nx Fs)) (r.cells.set (i * r.size + f) .free) arr'.toList F) (hF : ∀ b', F b' + f1 b b' ≤ Fs id b') (h1 : r.len ≤ cap) (h2 : cap * r.size ≤ arr'.size) (hl : Like w (w.setRow b arr') (ρ id) root (.hole e ver r i f)) :
    SRel C ⟨S.sl, upd S.hp [(id, some (.hole e ver r i f))], S.nx⟩ a (w.setRow b arr') ρ (putF (kilF Fs []) id (fadd (f1 b) F)) := by
  have hidlt := live_lt h.mem hr0
  have hFb : F b = 0 := by
    have := hF b
    have := sumTo_le Fs b hidlt
    have := h.mem.one b
    simp at *
    omega
  have hown : 1 ≤ Fs id b := by have := hF b; simp at this; omega
  have := h.turn [] (by simp) (by simp) id (by simp) root (.hole e ver r i f) hr0 (fadd (f1 b) F) (w.setRow b arr') (setRow_size ..) rfl rfl rfl (fun b' hb' h0 => setRow_other w b arr' (by rintro rfl; omega)) (fun b' => by have := hF b'; simp; omega) hl (fun M =>
    ⟨hi, hf, .inr ⟨b, cap, arr', ty, F, hρ, setRow_heap w b arr arr' ty _ hb, h1, h2, hc.mono (fun b' hb' => M.zl b' hb') (fun b' hb' => setRow_other w b arr' (by rintro rfl; omega)), rfl⟩⟩)
  exact this
theorem same_root (hp : Nat → Option Root) {id : Nat} {root : Root} (h : hp id = some root) : upd hp [(id, some root)] = hp := by
  funext j
  rw [upd_one]
  by_cases e : j = id
  · subst e; rw [if_pos rfl, h]
  · rw [if_neg e]
theorem drop_seg {α : Type} (l : List α) (a b m : Nat) (h : a + m ≤ b) : ((l.take b).drop a).take m = (l.drop a).take m := by
  rw [List.drop_take, List.take_take]
  congr 1
  omega
theorem evCopy_sound (T : TOK P tt) (h : SRel C S a w ρ Fs) {o : Oper} {c : Call} {t tx : Nat} {s x : Operand} (ho : o.op = .call c) (hc : c.callee = .builtin .copy) (hargs : c.args.toList = [s, x]) (hts : c.argTypes.toList = [t, tx]) {E : Eff} (he : evCopy (R := Eff) tt S.hp n t (St.rd C.N S.sl s) (St.rd C.N S.sl x) some = some E) : ∃ w' ρ' Fs' u, Out P C S o E a w w' ρ' Fs' u := by
  unfold evCopy at he
  replace he := bif_some he
  obtain ⟨hty, he⟩ := he
  have hel : ∃ e, elemTy tt t = some e ∧ sizeOf' tt e = 1 := by
    cases hq : elemTy tt t with
    | none => rw [hq] at hty; cases hty
    | some e => rw [hq] at hty; exact ⟨e, rfl, eq_of_beq hty⟩
  obtain ⟨e, hel, hsz⟩ := hel
  have hte : ∃ te, tt e = some te := by
    cases hq : tt e with
    | none => simp [sizeOf', hq] at hsz
    | some te => exact ⟨te, rfl⟩
  obtain ⟨te, hte⟩ := hte
  obtain ⟨ti, t1, t2⟩ := size_facts T hte
  have hs1 : (P.info? e).map (·.size) = some 1 := by
    rw [t1]; simp only [Option.map_some, Option.some.injEq]
    rw [t2]; simpa [sizeOf', hte] using hsz
  have hu := slice_facts T hel
  split at he
  · rename_i id lo hi id' lo' hi' hs hx
    obtain ⟨hlt, hx1⟩ := rd_l h hs
    obtain ⟨hlt', hx2⟩ := rd_l h hx
    split at he
    · rename_i bt ver k l hroot
      replace he := bif_some he
      obtain ⟨hid, he⟩ := he
      have hid := eq_of_beq hid
      subst hid
      cases he
      obtain ⟨r1, e1, a1, a2, a3⟩ := hx1 _ hroot
      cases e1
      obtain ⟨r2, e2, b1, b2, b3⟩ := hx2 _ hroot
      cases e2
      simp only [Row.len] at a2 b2
      simp only [Row.size, Cx.env] at a3 b3
      by_cases hm : min (hi' - lo') (hi - lo) = 0
      · -- nothing is copied
        have hlst : l.take lo ++ (((l.take hi').drop lo').take (hi - lo) ++ l.drop (lo + min (hi' - lo') (hi - lo))) = l := by
          have : ((l.take hi').drop lo').take (hi - lo) = [] := by
            apply List.eq_nil_of_length_eq_zero
            simp only [List.length_take, List.length_drop]
            omega
          rw [this, hm, List.nil_append, Nat.add_zero, List.take_append_drop]
        have hv1 : ∃ d dc, a.eval s = .slice d (hi - lo) dc := by
          rw [a3]
          cases hρ : ρ id with
          | none =>
            have := h.mem.roots id _ hroot
            rcases this with ⟨_, g2, _⟩ | ⟨b, cap, arr, ty, F', g1, _⟩
            · simp only [Row.len] at g2
              have : hi - lo = 0 := by omega
              rw [this]; exact ⟨_, _, rfl⟩
            · simp only [Cx.env] at g1; rw [hρ] at g1; cases g1
          | some q => exact ⟨_, _, rfl⟩
        have hv2 : ∃ d dc, a.eval x = .slice d (hi' - lo') dc := by
          rw [b3]
          cases hρ : ρ id with
          | none =>
            have := h.mem.roots id _ hroot
            rcases this with ⟨_, g2, _⟩ | ⟨b, cap, arr, ty, F', g1, _⟩
            · simp only [Row.len] at g2
              have : hi' - lo' = 0 := by omega
              rw [this]; exact ⟨_, _, rfl⟩
            · simp only [Cx.env] at g1; rw [hρ] at g1; cases g1
          | some q => exact ⟨_, _, rfl⟩
        obtain ⟨d, dc, hv1⟩ := hv1
        obtain ⟨d', dc', hv2⟩ := hv2
        have hrun := run_copy_none (P := P) w t tx o.type e d d' (hi - lo) dc (hi' - lo') dc' hu hs1 hm
        rw [← hv1, ← hv2] at hrun
        rw [hlst, hm]
        refine ⟨w, ρ, Fs, goInt 0, .inl (run_copy_op ho hc hargs hts hrun), by rw [same_root S.hp hroot]; exact h, rfl⟩
      · have hpos : 0 < l.length := by omega
        obtain ⟨b, cap, hρ, _⟩ := rows_place h.mem hroot rfl (by simpa [Row.len] using hpos)
        obtain ⟨arr, ty, F, g1, g2, g3, g4, g5, g6⟩ := row_mem h.mem hroot hρ (by simpa [Row.len] using hpos)
        simp only [Row.len] at g2
        simp only [Row.size, Nat.mul_one] at g3
        have hFz : F = fz := scalars_fz (fun c hc => by simp only [Row.cells, List.mem_map] at hc; obtain ⟨x, _, rfl⟩ := hc; exact ⟨_, rfl⟩) g4
        rw [hρ] at a3 b3
        simp only [subHdr, Nat.mul_one] at a3 b3
        rw [if_neg (by omega)] at a3 b3
        have hget : ∀ j, j < l.length → arr.toList[j]? = some (.int k (l.getD j 0)) := fun j hj => by
          obtain ⟨v, F1, F2, q1, q2, _⟩ := g4.get (j := j) (c := .sc (.int k l[j])) (by simp [Row.cells, hj])
          obtain ⟨rfl, _⟩ := q2
          rw [q1]; simp [hj]
        have hmm : min (hi' - lo') (hi - lo) = ((l.drop lo').take (min (hi' - lo') (hi - lo))).length := by simp; omega
        have hseg : ((l.take hi').drop lo').take (hi - lo) = (l.drop lo').take (min (hi' - lo') (hi - lo)) := by
          rw [List.drop_take, List.take_take, Nat.min_comm]
        let m := min (hi' - lo') (hi - lo)
        let cs : List Value := ((l.drop lo').take m).map (Value.int k)
        have hcl : cs.length = m := by simp [cs, m]; omega
        have hrun := run_copy_row (P := P) w t tx o.type e b lo (hi - lo) (cap - lo) ⟨b, lo', none⟩ (hi' - lo') (cap - lo') arr ty cs hu hs1 g1 (by rw [hcl]) (fun j v hj => by
          rw [plain_add, cell?_plain g1]
          simp only [cs, List.getElem?_map] at hj
          cases hlj : ((l.drop lo').take m)[j]? with
          | none => rw [hlj] at hj; cases hj
          | some z =>
            rw [hlj] at hj
            cases hj
            rw [List.getElem?_take] at hlj
            split at hlj
            · rw [List.getElem?_drop] at hlj
              have hb := (List.getElem?_eq_some_iff.1 hlj).1
              have := hget (lo' + j) hb
              rw [List.getD_eq_getElem?_getD, hlj] at this
              simpa using this
            · cases hlj) (by rw [hcl]; simp only [m]; omega) (fun v hv => by simp only [cs, List.mem_map] at hv; obtain ⟨z, _, rfl⟩ := hv; rfl)
        rw [← a3, ← b3] at hrun
        have hnew : CellsRel w (C.ZL w (sumTo S.nx Fs)) (Row.ints k (l.take lo ++ (((l.take hi').drop lo').take (hi - lo) ++ l.drop (lo + min (hi' - lo') (hi - lo))))).cells (arr.toList.take lo ++ cs ++ arr.toList.drop (lo + cs.length)) fz := by
          rw [hseg, hcl]
          refine CellsRel.ofFz fun j c hj => ?_
          simp only [Row.cells, List.map_append, List.append_assoc] at hj
          rw [List.append_assoc]
          have hal : arr.toList.length = arr.size := by simp
          by_cases j1 : j < lo
          · rw [List.getElem?_append_left (by simp; omega)] at hj ⊢
            rw [List.getElem?_map, List.getElem?_take, if_pos j1] at hj
            rw [List.getElem?_take, if_pos j1, hget j (by omega)]
            have : l[j]? = some l[j] := List.getElem?_eq_getElem (by omega)
            rw [this] at hj
            cases hj
            exact ⟨_, rfl, by simp [show j < l.length by omega], rfl⟩
          · rw [List.getElem?_append_right (by simp; omega)] at hj ⊢
            have el : (List.map (fun n => Cell.sc (.int k n)) (l.take lo)).length = lo := by simp; omega
            have el2 : (arr.toList.take lo).length = lo := by simp; omega
            rw [el] at hj
            rw [el2]
            by_cases j2 : j - lo < m
            · have e1 : (List.map (fun n => Cell.sc (.int k n)) (List.take (min (hi' - lo') (hi - lo)) (List.drop lo' l))).length = m := by simp [m]; omega
              rw [List.getElem?_append_left (by omega)] at hj ⊢
              rw [List.getElem?_map] at hj
              simp only [cs, List.getElem?_map, m]
              cases hq : (List.take (min (hi' - lo') (hi - lo)) (List.drop lo' l))[j - lo]? with
              | none => rw [hq] at hj; cases hj
              | some z => rw [hq] at hj; cases hj; exact ⟨_, rfl, rfl, rfl⟩
            · have e1 : (List.map (fun n => Cell.sc (.int k n)) (List.take (min (hi' - lo') (hi - lo)) (List.drop lo' l))).length = m := by simp [m]; omega
              rw [List.getElem?_append_right (by omega)] at hj ⊢
              rw [e1, List.getElem?_map, List.getElem?_drop] at hj
              rw [hcl, List.getElem?_drop]
              have e2 : lo + min (hi' - lo') (hi - lo) + (j - lo - m) = j := by simp only [m]; simp only [m] at j2; omega
              have e3 : lo + m + (j - lo - m) = j := by omega
              rw [e2] at hj
              rw [e3]
              cases hq : l[j]? with
              | none => rw [hq] at hj; cases hj
              | some z =>
                rw [hq] at hj
                cases hj
                have hb := (List.getElem?_eq_some_iff.1 hq).1
                have := hget j hb
                rw [List.getD_eq_getElem?_getD, hq] at this
                exact ⟨_, this, rfl, rfl⟩
        have hlen : (l.take lo ++ (((l.take hi').drop lo').take (hi - lo) ++ l.drop (lo + min (hi' - lo') (hi - lo)))).length = l.length := by
          simp only [List.length_append, List.length_take, List.length_drop]
          omega
        have hrel := SRel.turnRow h [] (by simp) (by simp) (by simp) hroot hρ g1 bt ver (.ints k (l.take lo ++ (((l.take hi').drop lo').take (hi - lo) ++ l.drop (lo + min (hi' - lo') (hi - lo))))) fz (arr' := (arr.toList.take lo ++ cs ++ arr.toList.drop (lo + cs.length)).toArray) (by
            simp only [List.toList_toArray]
            exact hnew.mono (fun b hb => ⟨.inl hb, rfl⟩) (fun b _ => rfl)) (fun b' => by rw [g5]; simp; omega) (by rw [g5]; simp) (by simp only [Row.len]; omega) (by
            simp only [Row.size, List.size_toArray, List.length_append, List.length_take, List.length_drop, Array.length_toList, hcl, m]
            omega) (like_row (by simp only [Row.len]; exact hlen) rfl (Nat.le_refl _) (fun _ => rfl) (fun _ => rfl))
        refine ⟨_, ρ, _, goInt cs.length, .inl (run_copy_op ho hc hargs hts hrun), hrel, ?_⟩
        rw [hcl]
        rfl
    · rename_i bt ver l hroot
      replace he := bif_some he
      obtain ⟨hid, he⟩ := he
      have hid := eq_of_beq hid
      subst hid
      replace he := chk_some he
      obtain ⟨hck, he⟩ := he
      cases he
      obtain ⟨hck, c4⟩ := and_bool hck
      obtain ⟨hck, c3⟩ := and_bool hck
      obtain ⟨c1, c2⟩ := and_bool hck
      have c1 := eq_of_beq c1
      have c2 := eq_of_beq c2
      have c3 := eq_of_beq c3
      have c4 := of_decide_eq_true c4
      subst c1 c2 c3
      obtain ⟨r1, e1, a1, a2, a3⟩ := hx1 _ hroot
      cases e1
      obtain ⟨r2, e2, b1, b2, b3⟩ := hx2 _ hroot
      cases e2
      simp only [Row.size, Cx.env] at a3 b3
      have hpos : 0 < (Row.rows true l).len := by simp only [Row.len]; omega
      obtain ⟨b, cap, hρ, _⟩ := rows_place h.mem hroot rfl hpos
      obtain ⟨arr, ty, F, g1, g2, g3, g4, g5, g6⟩ := row_mem h.mem hroot hρ hpos
      simp only [Row.len] at g2
      simp only [Row.size, Nat.mul_one] at g3
      rw [hρ] at a3 b3
      simp only [subHdr, Nat.mul_one] at a3 b3
      rw [if_neg (by omega)] at b3
      have hal : arr.toList.length = arr.size := by simp
      -- the cells: before, those that move, the last
      let A := (l.take lo').map (Cell.sl true)
      let M := ((l.drop lo').dropLast).map (Cell.sl true)
      have hlast : ∃ z, l.drop lo' = (l.drop lo').dropLast ++ [z] := by
        have hne : l.drop lo' ≠ [] := by intro hh; have := congrArg List.length hh; simp at this; omega
        exact ⟨(l.drop lo').getLast hne, (List.dropLast_concat_getLast hne).symm⟩
      obtain ⟨z, hz⟩ := hlast
      have hAl : A.length = lo' := by simp [A]; omega
      have hMl : M.length = l.length - lo' - 1 := by simp [M]
      have hcs : (Row.rows true l).cells = A ++ (M ++ [.sl true z]) := by
        show l.map _ = _
        conv => lhs; rw [← List.take_append_drop lo' l, hz]
        simp [A, M]
      rw [hcs] at g4
      obtain ⟨FA, F2, s1, s2, s3⟩ := CellsRel.split g4
      obtain ⟨FM, FL, s4, s5, s6⟩ := CellsRel.split s2
      rw [hAl] at s1 s4
      let V : List Value := (arr.toList.drop lo').take M.length
      have hVl : V.length = M.length := by simp [V, hMl]; omega
      have hvone : ∀ v ∈ V, v.oneCell' = true := cells_one (fun c hc => by simp only [M, List.mem_map] at hc; obtain ⟨_, _, rfl⟩ := hc; trivial) s4 (by omega)
      have hrunw : ∃ w', (Builtin.copy_ #[t, tx] o.type #[a.eval s, a.eval x]).run P w = .ok (goInt V.length) w' ∧ w' = w.setRow b (arr.toList.take (lo' + 1) ++ V ++ arr.toList.drop (lo' + 1 + V.length)).toArray := by
        by_cases hm : V.length = 0
        · have hmin : Nat.min (l.length - lo') (l.length - (lo' + 1)) = 0 := by
            have : Nat.min (l.length - lo') (l.length - (lo' + 1)) = min (l.length - lo') (l.length - (lo' + 1)) := rfl
            omega
          rw [a3, b3]
          refine ⟨w, by rw [hm]; exact run_copy_none (P := P) w t tx o.type e _ _ _ _ _ _ hu hs1 hmin, ?_⟩
          have hv0 : V = [] := List.eq_nil_of_length_eq_zero hm
          rw [hv0]
          simp only [List.append_nil, List.length_nil, Nat.add_zero, List.take_append_drop, Array.toArray_toList]
          exact (setRow_self w b arr ty (0, 0) g1).symm
        · rw [if_neg (by omega)] at a3
          have hrun := run_copy_row (P := P) w t tx o.type e b (lo' + 1) (l.length - (lo' + 1)) (cap - (lo' + 1)) ⟨b, lo', none⟩ (l.length - lo') (cap - lo') arr ty V hu hs1 g1 (by
            have : Nat.min (l.length - lo') (l.length - (lo' + 1)) = min (l.length - lo') (l.length - (lo' + 1)) := rfl
            rw [hVl, hMl, this]; omega) (fun j v hj => by
            rw [plain_add, cell?_plain g1]
            simp only [V] at hj
            rw [List.getElem?_take] at hj
            split at hj
            · rw [List.getElem?_drop] at hj; simpa using hj
            · cases hj) (by rw [hVl, hMl]; omega) hvone
          rw [← a3, ← b3] at hrun
          exact ⟨_, hrun, rfl⟩
      obtain ⟨w', hrun, hw'⟩ := hrunw
      have hlt2 : lo' < (l.take lo' ++ [] :: (l.drop lo').dropLast).length := by simp; omega
      have hlen : (l.take lo' ++ [] :: (l.drop lo').dropLast).length = l.length := by simp; omega
      have hhole : (Row.rows true (l.take lo' ++ [] :: (l.drop lo').dropLast)).cells.set (lo' * 1 + 0) .free = A ++ (.free :: M) := by
        show ((l.take lo' ++ [] :: (l.drop lo').dropLast).map _).set _ _ = _
        rw [List.map_append, List.set_append_right _ _ (by simp; omega)]
        have : lo' * 1 + 0 - (List.map (fun x => Cell.sl true x) (l.take lo')).length = 0 := by simp; omega
        rw [this]
        rfl
      have htail : arr.toList.take (lo' + 1) ++ V ++ arr.toList.drop (lo' + 1 + V.length) = arr.toList.take lo' ++ (arr.toList[lo']'(by omega) :: (V ++ arr.toList.drop (lo' + 1 + V.length))) := by
        rw [List.append_assoc, List.take_succ_eq_append_getElem (by omega)]
        simp
      have hrel := SRel.turnHole h hroot hρ g1 bt (ver + 1) (.rows true (l.take lo' ++ [] :: (l.drop lo').dropLast)) lo' 0 hlt2 (by simp [Row.size]) (fadd FA FM) (arr' := (arr.toList.take (lo' + 1) ++ V ++ arr.toList.drop (lo' + 1 + V.length)).toArray) (by
          simp only [Row.size, List.toList_toArray]
          rw [hhole, htail]
          exact CellsRel.append s1 (by rw [hAl]; simp; omega) ⟨fz, FM, rfl, s4.more _, (fz_fadd FM).symm⟩)
        (fun b' => by rw [g5, s3, s6]; simp; omega) (by simp only [Row.len]; omega) (by
          simp only [Row.size, List.size_toArray, List.length_append, List.length_take, List.length_drop, Array.length_toList]
          omega) ⟨by simp only [Row.len]; exact hlen, rfl, Nat.le_succ _⟩
      refine ⟨w', ρ, _, goInt V.length, .inl (run_copy_op ho hc hargs hts hrun), by rw [hw']; exact hrel, ?_⟩
      show goInt V.length = _
      rw [hVl, hMl, Nat.sub_sub]
      rfl
    · cases he
  · cases he
end
end Go.Proofs.Ytfkejiljabmaaaa.V
