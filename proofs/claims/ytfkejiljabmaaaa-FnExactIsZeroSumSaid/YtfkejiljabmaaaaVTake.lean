/- A slice within a row: lent on its own, and put back. Conditions: none. -/
import Derived.Test.YtfkejiljabmaaaaVIn
set_option linter.unusedVariables false
set_option linter.unusedSimpArgs false
namespace Go.Proofs.Ytfkejiljabmaaaa.V
open Go

section
variable {P : Program} {tt : TT} {C : Cx} {S : St} {a : Act} {w : World} {ρ : Place} {Fs : Nat → FP} {n : Nat}
def takeUp (id n e ver i f : Nat) (r : Row) : List (Nat × Option Root) := [(id, some (.hole e ver r i f)), (n, some (.row 0 0 (.ints .i64 (innerOf r i f))))]
theorem takeUp_at (hp : Nat → Option Root) (id n e ver i f : Nat) (r : Row) (j : Nat) : upd hp (takeUp id n e ver i f r) j = if j = n then some (.row 0 0 (.ints .i64 (innerOf r i f))) else if j = id then some (.hole e ver r i f) else hp j := by
  rw [show takeUp id n e ver i f r = [(id, some (Root.hole e ver r i f))] ++ [(n, some (.row 0 0 (.ints .i64 (innerOf r i f))))] from rfl, upd_append, upd_one, upd_one]
theorem SRel.takeAny (h : SRel C S a w ρ Fs) (hg : S.hp n = some .ghost) {id e ver i f : Nat} {r : Row} (hroot : S.hp id = some (.row e ver r)) (ho : r.owned = true) (hs : r.slAt f = true) (hi : i < r.len) {v : Value} (hv : cellAt w (ρ id) (i * r.size + f) = some v) :
    ∃ q Fs' b cap, ρ id = some (b, cap) ∧ 1 ≤ Fs' id b ∧ SRel C ⟨S.sl, upd S.hp (takeUp id n e ver i f r), S.nx⟩ a w (newρ ρ n q) Fs' ∧ v = hdr q (innerOf r i f).length := by
  have hne : id ≠ n := by rintro rfl; rw [hroot] at hg; cases hg
  have hidlt := live_lt h.mem hroot
  have hnlt := live_lt h.mem hg
  have hg0 : Fs n = fz := h.mem.roots n _ hg
  cases hρ : ρ id with
  | none => rw [hρ] at hv; cases hv
  | some q =>
    obtain ⟨b, cap⟩ := q
    rw [hρ] at hv
    obtain ⟨arr, ty, F, g1, g2, g3, g4, g5, g6⟩ := row_mem h.mem hroot hρ (by omega)
    simp only [cellAt] at hv
    rw [cell?_plain g1] at hv
    have hc := inner_own_cell ho hs hi
    obtain ⟨v', F1, F2, k1, k2, k3, k4⟩ := g4.get hc
    have hv' : arr.toList[i * r.size + f]? = some v := by simpa using hv
    rw [hv'] at k1; cases k1
    have hhole := k4 .free v fz rfl
    have hset : arr.toList.set (i * r.size + f) v = arr.toList := by
      apply List.ext_getElem?
      intro j
      rw [List.getElem?_set]
      by_cases e : i * r.size + f = j
      · subst e; rw [if_pos rfl, if_pos (List.getElem?_eq_some_iff.1 hv').1, hv']
      · rw [if_neg e]
    rw [hset, fz_fadd] at hhole
    have hcase : ∃ q, v = hdr q (innerOf r i f).length ∧ ∀ (E' : Env), E'.w = w → E'.ρ n = q → RootRel E' n (.row 0 0 (.ints .i64 (innerOf r i f))) F1 := by
      rcases k2 with ⟨p1, p2, p3⟩ | ⟨b2, cap2, arr2, ty2, q1, q2, q3, q4, q5, q6⟩
      · refine ⟨none, by rw [p1, p2]; rfl, fun E' hw' hq => .inl ⟨hq, by rw [p2]; rfl, p3⟩⟩
      · refine ⟨some (b2, cap2), by rw [q1]; rfl, fun E' hw' hq => .inr ⟨b2, cap2, arr2, ty2, fz, hq, by rw [hw']; exact q2, by simpa [Row.len] using q3, by simpa [Row.size] using q4, ?_, by rw [fadd_fz]; exact q6⟩⟩
        refine CellsRel.ofFz fun j c hj => ?_
        simp only [Row.cells, List.getElem?_map] at hj
        cases hlj : (innerOf r i f)[j]? with
        | none => rw [hlj] at hj; cases hj
        | some z =>
          rw [hlj] at hj
          cases hj
          exact ⟨_, by simpa using q5 j z hlj, rfl, rfl⟩
    obtain ⟨q, hvq, hrr⟩ := hcase
    have hat := takeUp_at S.hp id n e ver i f r
    have hsum : ∀ b', sumTo S.nx (putF (putF Fs id (fadd (f1 b) F2)) n F1) b' = sumTo S.nx Fs b' := fun b' => by
      have e1 := sumTo_put (putF Fs id (fadd (f1 b) F2)) F1 b' hnlt
      have e2 := sumTo_put Fs (fadd (f1 b) F2) b' hidlt
      rw [putF_ne _ _ (Ne.symm hne), hg0] at e1
      rw [g5, k3] at e2
      simp at e1 e2
      omega
    refine ⟨q, putF (putF Fs id (fadd (f1 b) F2)) n F1, b, cap, rfl, by rw [putF_ne _ _ hne, putF_self]; simp, ?_, hvq⟩
    refine h.gen _ _ w _ _ (fun _ => False) (Nat.le_refl _) rfl rfl rfl (fun _ _ _ => rfl) (fun _ h => h.elim) (Nat.le_refl _) (fun j hj hre => newρ_ne _ _ (by rintro rfl; exact hre _ hg)) (fun j hj => ?_) (fun j hj => .inl ⟨by rw [hat, if_neg (by omega), if_neg (by omega)]; exact h.mem.fresh j hj, by rw [putF_ne _ _ (by omega), putF_ne _ _ (by omega)]; exact h.mem.dead j (h.mem.fresh j hj)⟩) (fun b' => by rw [hsum]; exact h.mem.one b') (fun b' hb' => .inl (by rw [hsum] at hb'; exact hb'))
    by_cases e1 : j = n
    · subst e1
      exact .turned .ghost _ hg (by rw [hat, if_pos rfl]) trivial (fun M => by rw [putF_self]; exact hrr _ rfl (newρ_self ..))
    · by_cases e2 : j = id
      · subst e2
        refine .turned _ (.hole e ver r i f) hroot (by rw [hat, if_neg e1, if_pos rfl]) ⟨rfl, rfl, Nat.le_refl _⟩ (fun M => ?_)
        rw [putF_ne _ _ e1, putF_self]
        refine ⟨hi, slAt_lt hs, .inr ⟨b, cap, arr, ty, F2, by show newρ ρ n q j = _; rw [newρ_ne _ _ e1]; exact hρ, g1, g2, g3, ?_, rfl⟩⟩
        exact hhole.mono (fun b hb => M.zl b hb) (fun b _ => rfl)
      · exact .same (by rw [hat, if_neg e1, if_neg e2]) (by rw [putF_ne _ _ e1, putF_ne _ _ e2]) (fun _ _ h => h)
theorem setInnerRow_cells {i f : Nat} {y : List Int} {r r' : Row} (h : setInnerRow i f y r = some r') (hs : r.slAt f = true) (hi : i < r.len) : r'.cells = r.cells.set (i * r.size + f) (.sl true y) ∧ r'.len = r.len ∧ r'.size = r.size := by
  unfold setInnerRow at h
  split at h
  · rename_i l
    cases h
    have hf : f = 0 := by simpa [Row.slAt] using hs
    subst hf
    exact ⟨by simp [Row.cells, Row.size], by simp [Row.len], rfl⟩
  · rename_i sg l
    split at h
    · rename_i hsg
      cases h
      have hi' : i < l.length := hi
      have hli : l[i]? = some l[i] := List.getElem?_eq_getElem hi'
      have hgd : l.getD i [] = l[i] := by simp [hi']
      refine ⟨?_, by simp [Row.len], rfl⟩
      simp only [Row.cells, Row.size]
      refine flatMap_set (fun r => recCells true r 0 sg) sg.length (fun r => recCells_length ..) f (List.getElem?_eq_some_iff.1 hsg).1 _ _ l i l[i] hli ?_
      rw [hgd]
      exact setLeaf_cells true sg l[i] f (.ints y) _ ⟨true, hsg, rfl⟩
    · cases h
  · cases h
/-- The slice of a root of its own goes back into its place. -/
theorem SRel.putBack (h : SRel C S a w ρ Fs) {id n e ver i f : Nat} {r r' : Row} (hroot : S.hp id = some (.hole e ver r i f)) (hs : r.slAt f = true) {l : List Int} {e2 v2 : Nat} (hn : S.hp n = some (.row e2 v2 (.ints .i64 l))) (hset : setInnerRow i f l r = some r') {v : Value} (hv : cellAt w (ρ id) (i * r.size + f) = some v) (hvq : v = hdr (ρ n) l.length) :
    ∃ Fs', SRel C ⟨S.sl, upd S.hp [(id, some (.row e (ver + 1) r')), (n, none)], S.nx⟩ a w ρ Fs' ∧ Mono (C.env w ρ S.hp S.nx Fs) (C.env w ρ (upd S.hp [(id, some (.row e (ver + 1) r')), (n, none)]) S.nx Fs') := by
  have hne : id ≠ n := by rintro rfl; rw [hroot] at hn; cases hn
  have hidlt := live_lt h.mem hroot
  have hnlt := live_lt h.mem hn
  obtain ⟨hi, hfs, hrow⟩ := h.mem.roots id _ hroot
  have hrow : RowRel w (C.ZL w (sumTo S.nx Fs)) (ρ id) (r.cells.set (i * r.size + f) .free) r.len r.size (Fs id) := hrow
  have hrn : RowRel w (C.ZL w (sumTo S.nx Fs)) (ρ n) (Row.ints .i64 l).cells l.length 1 (Fs n) := h.mem.roots n _ hn
  obtain ⟨c1, c2, c3⟩ := setInnerRow_cells hset hs hi
  rcases hrow with ⟨z1, z2, z3⟩ | ⟨b, cap, arr, ty, F, g1, g2, g3, g4, g5, g6⟩
  · rw [z1] at hv; cases hv
  rw [g1] at hv
  simp only [cellAt] at hv
  rw [cell?_plain g2] at hv
  have hv' : arr.toList[i * r.size + f]? = some v := by simpa using hv
  have hjlt : i * r.size + f < r.cells.length := by
    rw [Row.cells_length]
    have : (i + 1) * r.size ≤ r.len * r.size := Nat.mul_le_mul_right _ hi
    rw [Nat.succ_mul] at this
    omega
  have hcf : (r.cells.set (i * r.size + f) .free)[i * r.size + f]? = some .free := by rw [List.getElem?_set_self hjlt]
  obtain ⟨v', F1, F2, k1, k2, k3, k4⟩ := g5.get hcf
  rw [hv'] at k1; cases k1
  have hF1 : F1 = fz := k2
  subst hF1
  have hcell : CellRel w (C.ZL w (sumTo S.nx Fs)) (.sl true l) v (Fs n) := by
    rcases hrn with ⟨y1, y2, y3⟩ | ⟨b2, cap2, arr2, ty2, F', q1, q2, q3, q4, q5, q6⟩
    · left
      refine ⟨by rw [hvq, y1]; rfl, ?_, y3⟩
      exact List.length_eq_zero_iff.1 y2
    · right
      have hF' : F' = fz := plain_fz (fun c hc => by
        simp only [Row.cells, List.mem_map] at hc
        obtain ⟨x, _, rfl⟩ := hc
        exact .inl ⟨_, rfl⟩) q5
      subst hF'
      refine ⟨b2, cap2, arr2, ty2, by rw [hvq, q1]; rfl, q2, q3, by simpa using q4, fun j z hj => ?_, by rw [q6, fadd_fz]⟩
      have hcj : (Row.ints .i64 l).cells[j]? = some (.sc (.int .i64 z)) := by simp [Row.cells, hj]
      obtain ⟨u, G1, G2, m1, m2, _⟩ := q5.get hcj
      have : u = .int .i64 z := m2.1
      subst this
      simpa using m1
  have hnew := k4 (.sl true l) v (Fs n) hcell
  have hset2 : arr.toList.set (i * r.size + f) v = arr.toList := by
    apply List.ext_getElem?
    intro j
    rw [List.getElem?_set]
    by_cases e : i * r.size + f = j
    · subst e; rw [if_pos rfl, if_pos (List.getElem?_eq_some_iff.1 hv').1, hv']
    · rw [if_neg e]
  rw [hset2, List.set_set] at hnew
  rw [fz_fadd] at k3
  have hat : ∀ j, upd S.hp [(id, some (.row e (ver + 1) r')), (n, none)] j = if j = n then none else if j = id then some (.row e (ver + 1) r') else S.hp j := fun j => by
    rw [show [(id, some (Root.row e (ver + 1) r')), (n, none)] = [(id, some (Root.row e (ver + 1) r'))] ++ [(n, none)] from rfl, upd_append, upd_one, upd_one]
  have hsum : ∀ b', sumTo S.nx (putF (putF Fs id (fadd (f1 b) (fadd (Fs n) F2))) n fz) b' = sumTo S.nx Fs b' := fun b' => by
    have e1 := sumTo_put (putF Fs id (fadd (f1 b) (fadd (Fs n) F2))) fz b' hnlt
    have e2 := sumTo_put Fs (fadd (f1 b) (fadd (Fs n) F2)) b' hidlt
    rw [putF_ne _ _ (Ne.symm hne)] at e1
    rw [g6, k3] at e2
    simp at e1 e2
    omega
  refine ⟨putF (putF Fs id (fadd (f1 b) (fadd (Fs n) F2))) n fz, ?_⟩
  refine h.genM _ _ w _ _ (fun _ => False) (Nat.le_refl _) rfl rfl rfl (fun _ _ _ => rfl) (fun _ h => h.elim) (Nat.le_refl _) (fun j hj hre => rfl) (fun j hj => ?_) (fun j hj => .inl ⟨by rw [hat, if_neg (by omega), if_neg (by omega)]; exact h.mem.fresh j hj, by rw [putF_ne _ _ (by omega), putF_ne _ _ (by omega)]; exact h.mem.dead j (h.mem.fresh j hj)⟩) (fun b' => by rw [hsum]; exact h.mem.one b') (fun b' hb' => .inl (by rw [hsum] at hb'; exact hb'))
  by_cases e1 : j = n
  · subst e1
    exact .gone (by rw [hat, if_pos rfl]) (putF_self ..)
  · by_cases e2 : j = id
    · subst e2
      refine .turned _ (.row e (ver + 1) r') hroot (by rw [hat, if_neg e1, if_pos rfl]) ⟨c2, c3, Nat.lt_succ_self _⟩ (fun M => ?_)
      rw [putF_ne _ _ e1, putF_self]
      refine .inr ⟨b, cap, arr, ty, fadd (Fs n) F2, g1, g2, by rw [c2]; exact g3, by rw [c3]; exact g4, ?_, rfl⟩
      rw [c1]
      exact hnew.mono (fun b hb => M.zl b hb) (fun b _ => rfl)
    · exact .same (by rw [hat, if_neg e1, if_neg e2]) (by rw [putF_ne _ _ e1, putF_ne _ _ e2]) (fun _ _ h => h)
end
end Go.Proofs.Ytfkejiljabmaaaa.V
