/- What a call brings back: its results get names. Conditions: none. -/
import Derived.Test.YtfkejiljabmaaaaVCall
set_option linter.unusedVariables false
set_option linter.unusedSimpArgs false
namespace Go.Proofs.Ytfkejiljabmaaaa.V
open Go

section
variable {R : Type} {tt : TT}
/-! ### Telling -/
theorem dI_some {k : IntKind} {d : DL} {K : Int → Option R} {r : R} (h : dI k d K = some r) : ∃ n, d = .i k n ∧ K n = some r := by
  cases d with
  | i k' n =>
    simp only [dI] at h
    obtain ⟨h1, h2⟩ := bif_some h
    have e : k = k' := of_decide_eq_true h1
    subst e; exact ⟨n, rfl, h2⟩
  | _ => cases h
theorem dB_some {d : DL} {K : Bool → Option R} {r : R} (h : dB d K = some r) : ∃ x, d = .b x ∧ K x = some r := by
  cases d with
  | b x => exact ⟨x, rfl, h⟩
  | _ => cases h
theorem dS_some {d : DL} {K : ByteArray → Option R} {r : R} (h : dS d K = some r) : ∃ x, d = .s x ∧ K x = some r := by
  cases d with
  | s x => exact ⟨x, rfl, h⟩
  | _ => cases h
theorem dE_some {d : DL} {K : Bool → Option R} {r : R} (h : dE d K = some r) : ∃ x, d = .er x ∧ K x = some r := by
  cases d with
  | er x => exact ⟨x, rfl, h⟩
  | _ => cases h
theorem dInts_some {oc : Cls} {k : IntKind} {d : DL} {K : List Int → Option R} {r : R} (h : dInts oc k d K = some r) : ∃ l, d = .sl oc (.ints k l) ∧ K l = some r := by
  unfold dInts at h
  split at h
  · obtain ⟨h1, h2⟩ := bif_some h
    obtain ⟨h1, h3⟩ := and_bool h1
    have e := of_decide_eq_true h1
    have e3 := of_decide_eq_true h3
    subst e; subst e3; exact ⟨_, rfl, h2⟩
  · cases h
theorem dBools_some {oc : Cls} {d : DL} {K : List Bool → Option R} {r : R} (h : dBools oc d K = some r) : ∃ l, d = .sl oc (.bools l) ∧ K l = some r := by
  unfold dBools at h
  split at h
  · obtain ⟨h1, h2⟩ := bif_some h
    have e := of_decide_eq_true h1
    subst e; exact ⟨_, rfl, h2⟩
  · cases h
theorem dStrs_some {oc : Cls} {d : DL} {K : List ByteArray → Option R} {r : R} (h : dStrs oc d K = some r) : ∃ l, d = .sl oc (.strs l) ∧ K l = some r := by
  unfold dStrs at h
  split at h
  · obtain ⟨h1, h2⟩ := bif_some h
    have e := of_decide_eq_true h1
    subst e; exact ⟨_, rfl, h2⟩
  · cases h
theorem dRows_some {oc : Cls} {d : DL} {K : List (List Int) → Option R} {r : R} (h : dRows oc d K = some r) : ∃ l, d = .sl oc (.rows (decide (oc = .own)) l) ∧ K l = some r := by
  unfold dRows at h
  split at h
  · obtain ⟨h1, h2⟩ := bif_some h
    obtain ⟨h1, h3⟩ := and_bool h1
    have e := of_decide_eq_true h1
    have e3 := eq_of_beq h3
    subst e; subst e3; exact ⟨_, rfl, h2⟩
  · cases h
theorem dRecs_some {oc : Cls} {sg : List Bool} {d : DL} {K : List (List Leaf) → Option R} {r : R} (h : dRecs oc sg d K = some r) : ∃ l, d = .sl oc (.recs sg (decide (oc = .own)) l) ∧ K l = some r := by
  unfold dRecs at h
  split at h
  · obtain ⟨h1, h2⟩ := bif_some h
    obtain ⟨h1, h4⟩ := and_bool h1
    obtain ⟨h1, h3⟩ := and_bool h1
    have e := of_decide_eq_true h1
    have e3 := eq_of_beq h3
    have e4 := eq_of_beq h4
    subst e; subst e3; subst e4; exact ⟨_, rfl, h2⟩
  · cases h
theorem dHead_some {ds : List DV} {K : DV → List DV → Option R} {r : R} (h : dHead ds K = some r) : ∃ d ds', ds = d :: ds' ∧ K d ds' = some r := by
  cases ds with
  | nil => cases h
  | cons d ds' => exact ⟨d, ds', rfl, h⟩
theorem dNil_some {ds : List DV} {K : Option R} {r : R} (h : dNil ds K = some r) : ds = [] ∧ K = some r := by
  cases ds with
  | nil => exact ⟨rfl, h⟩
  | cons d ds' => cases h
theorem lHead_some {ds : List DL} {K : DL → List DL → Option R} {r : R} (h : lHead ds K = some r) : ∃ d ds', ds = d :: ds' ∧ K d ds' = some r := by
  cases ds with
  | nil => cases h
  | cons d ds' => exact ⟨d, ds', rfl, h⟩
theorem lNil_some {ds : List DL} {K : Option R} {r : R} (h : lNil ds K = some r) : ds = [] ∧ K = some r := by
  cases ds with
  | nil => exact ⟨rfl, h⟩
  | cons d ds' => cases h
theorem dL_some {d : DV} {K : DL → Option R} {r : R} (h : dL d K = some r) : ∃ x, d = .l x ∧ K x = some r := by
  cases d with
  | l x => exact ⟨x, rfl, h⟩
  | _ => cases h
theorem dAgg_some {d : DV} {K : List DL → Option R} {r : R} (h : dAgg d K = some r) : ∃ x, d = .agg x ∧ K x = some r := by
  cases d with
  | agg x => exact ⟨x, rfl, h⟩
  | _ => cases h

/-- Is a result of the class that is told. -/
def clsL (oc : Cls) : DL → Prop
  | .sl c r => c = oc ∧ (oc = .own → r.owned = true)
  | _ => True
def clsV (oc : Cls) : DV → Prop
  | .l d => clsL oc d
  | .agg ds => ∀ d ∈ ds, clsL oc d
  | .ptr _ => False
theorem fin_elim {oc : Cls} {t e n : Nat} {K : LV → List (Nat × Option Root) → Nat → Option R} {r : R} (hel : elemTy tt t = some e) (row : Row) (hk : (match oc with
      | .own => K (.own n) [(n, some (.row e 0 row))] (n + 1)
      | .frz => K (.val true row) [] n
      | .lent => K (.val false row) [] n) = some r) (ho : oc = .own → row.owned = true) : ∃ x up n', inLeaf tt t (.sl oc row) n = some (x, up, n') ∧ clsL oc (.sl oc row) ∧ K x up n' = some r := by
  cases oc with
  | own => exact ⟨_, _, _, by simp only [inLeaf, hel], ⟨rfl, ho⟩, hk⟩
  | frz => exact ⟨_, _, _, rfl, ⟨rfl, ho⟩, hk⟩
  | lent => exact ⟨_, _, _, rfl, ⟨rfl, ho⟩, hk⟩
theorem fromDL_elim {oc : Cls} {t : Nat} {d : DL} {n : Nat} {K : LV → List (Nat × Option Root) → Nat → Option R} {r : R} (h : fromDL tt oc t d n K = some r) : ∃ x up n', inLeaf tt t d n = some (x, up, n') ∧ clsL oc d ∧ K x up n' = some r := by
  unfold fromDL at h
  split at h
  · obtain ⟨z, rfl, h2⟩ := dI_some h; exact ⟨_, _, _, rfl, trivial, h2⟩
  · obtain ⟨z, rfl, h2⟩ := dB_some h; exact ⟨_, _, _, rfl, trivial, h2⟩
  · obtain ⟨z, rfl, h2⟩ := dS_some h; exact ⟨_, _, _, rfl, trivial, h2⟩
  · obtain ⟨z, rfl, h2⟩ := dE_some h; exact ⟨_, _, _, rfl, trivial, h2⟩
  · rename_i e sz bs ht
    have hel : elemTy tt t = some e := by unfold elemTy; rw [ht]
    simp only [] at h
    split at h
    · obtain ⟨l, rfl, h2⟩ := dInts_some h; exact fin_elim hel _ h2 (fun _ => rfl)
    · obtain ⟨l, rfl, h2⟩ := dBools_some h; exact fin_elim hel _ h2 (fun _ => rfl)
    · obtain ⟨l, rfl, h2⟩ := dStrs_some h; exact fin_elim hel _ h2 (fun _ => rfl)
    · obtain ⟨l, rfl, h2⟩ := dRows_some h; exact fin_elim hel _ h2 (fun e => by simp [Row.owned, e])
    · obtain ⟨l, rfl, h2⟩ := dRecs_some h; exact fin_elim hel _ h2 (fun e => by simp [Row.owned, e])
    · cases h
  · cases h
theorem fromDLs_elim {oc : Cls} {r : R} : ∀ {ts : List Nat} {ds : List DL} {n : Nat} {K : List LV → List (Nat × Option Root) → Nat → Option R}, fromDLs tt oc ts ds n K = some r → ∃ xs up n', inLeafs tt ts ds n = some (xs, up, n') ∧ (∀ d ∈ ds, clsL oc d) ∧ K xs up n' = some r
  | [], ds, n, K, h => by
    obtain ⟨rfl, h0⟩ := lNil_some h
    exact ⟨_, _, _, rfl, by simp, h0⟩
  | t :: ts, ds, n, K, h => by
    obtain ⟨d, ds', rfl, h0⟩ := lHead_some h
    obtain ⟨x, up, n1, h1, c1, h3⟩ := fromDL_elim h0
    obtain ⟨xs, up', n2, h2, c2, h4⟩ := fromDLs_elim h3
    exact ⟨_, _, _, by simp only [inLeafs, h1, h2], by simp only [List.mem_cons, forall_eq_or_imp]; exact ⟨c1, c2⟩, h4⟩
theorem fromDV_elim {oc : Cls} {t : Nat} {d : DV} {n : Nat} {K : A1 → List (Nat × Option Root) → Nat → Option R} {r : R} (h : fromDV tt oc t d n K = some r) : ∃ x up n', inArg tt t d n = some (.one x, up, n') ∧ clsV oc d ∧ K x up n' = some r := by
  unfold fromDV at h
  split at h
  · obtain ⟨ds, rfl, h0⟩ := dAgg_some h
    obtain ⟨xs, up, n', h1, c, h2⟩ := fromDLs_elim h0
    exact ⟨_, _, _, by simp only [inArg, h1], c, h2⟩
  · obtain ⟨d', rfl, h0⟩ := dL_some h
    obtain ⟨x, up, n', h1, c, h2⟩ := fromDL_elim h0
    exact ⟨_, _, _, by simp only [inArg, h1], c, h2⟩
theorem fromDVs_elim {oc : Cls} {r : R} : ∀ {ts : List Nat} {ds : List DV} {n : Nat} {K : List A1 → List (Nat × Option Root) → Nat → List DV → Option R}, fromDVs tt oc ts ds n K = some r → ∃ ds1 ds2 xs up n', ds = ds1 ++ ds2 ∧ inArgs tt ts ds1 n = some (xs.map AV.one, up, n') ∧ (∀ d ∈ ds1, clsV oc d) ∧ K xs up n' ds2 = some r
  | [], ds, n, K, h => ⟨[], ds, [], [], n, rfl, rfl, by simp, h⟩
  | t :: ts, ds, n, K, h => by
    obtain ⟨d, ds', rfl, h0⟩ := dHead_some h
    obtain ⟨x, up, n1, h1, c1, h3⟩ := fromDV_elim h0
    obtain ⟨ds1, ds2, xs, up', n2, rfl, h2, c2, h4⟩ := fromDVs_elim h3
    exact ⟨d :: ds1, ds2, x :: xs, _, _, rfl, by simp only [inArgs, h1, h2, List.map_cons], by simp only [List.mem_cons, forall_eq_or_imp]; exact ⟨c1, c2⟩, h4⟩

/-! ### What is not lent says nothing of what is -/
section
variable {w : World} {Zf ZL Z : Zs}
theorem DLRel.noLent {oc : Cls} (ho : oc ≠ .lent) {d : DL} (hc : clsL oc d) {v : Value} {F : FP} (h : DLRel w Zf ZL d v F) : DLRel w Zf Z d v F := by
  cases d with
  | sl c r =>
    obtain ⟨rfl, h2⟩ := hc
    cases c with
    | lent => exact absurd rfl ho
    | frz => exact h
    | own =>
      obtain ⟨q, e1, e2⟩ := h
      refine ⟨q, e1, ?_⟩
      rcases e2 with e2 | ⟨b, cap, arr, ty, F', g1, g2, g3, g4, g5, g6⟩
      · exact .inl e2
      · exact .inr ⟨b, cap, arr, ty, F', g1, g2, g3, g4, owned_any (owned_cells (h2 rfl)) g5, g6⟩
  | er x => cases x <;> exact h
  | _ => exact h
theorem DLsRel.noLent {oc : Cls} (ho : oc ≠ .lent) : ∀ {ds : List DL} {vs : List Value} {F : FP}, (∀ d ∈ ds, clsL oc d) → DLsRel w Zf ZL ds vs F → DLsRel w Zf Z ds vs F
  | [], [], _, _, h => h
  | d :: ds, v :: vs, F, hc, ⟨F1, F2, h1, h2, h3⟩ => ⟨F1, F2, h1.noLent ho (hc d (by simp)), DLsRel.noLent ho (fun d hd => hc d (by simp [hd])) h2, h3⟩
theorem DVRel.noLent {oc : Cls} (ho : oc ≠ .lent) {d : DV} (hc : clsV oc d) {v : Value} {F : FP} (h : DVRel w Zf ZL d v F) : DVRel w Zf Z d v F := by
  cases d with
  | l d => exact DLRel.noLent ho hc h
  | agg ds => obtain ⟨vs, e, h⟩ := h; exact ⟨vs, e, DLsRel.noLent ho hc h⟩
  | ptr ds => exact hc.elim
theorem DVsRel.noLent {oc : Cls} (ho : oc ≠ .lent) : ∀ {ds : List DV} {vs : List Value} {F : FP}, (∀ d ∈ ds, clsV oc d) → DVsRel w Zf ZL ds vs F → DVsRel w Zf Z ds vs F
  | [], [], _, _, h => h
  | d :: ds, v :: vs, F, hc, ⟨F1, F2, h1, h2, h3⟩ => ⟨F1, F2, h1.noLent ho (hc d (by simp)), DVsRel.noLent ho (fun d hd => hc d (by simp [hd])) h2, h3⟩
end
theorem ioVals_none : ∀ (ms : List Mode) (vs : List Value), noIO ms = true → ioVals ms vs = []
  | [], _, _ => by simp [ioVals]
  | m :: ms, [], _ => by simp [ioVals]
  | .io :: ms, v :: vs, h => by cases h
  | .bor :: ms, v :: vs, h => by simp [ioVals, ioVals_none ms vs h]
  | .mov :: ms, v :: vs, h => by simp [ioVals, ioVals_none ms vs h]
theorem A1sRel.of {E : Env} : ∀ {xs : List A1} {vs : List Value}, AVsRel E (xs.map AV.one) vs → A1sRel E xs vs
  | [], [], _ => trivial
  | x :: xs, v :: vs, h => ⟨h.1, A1sRel.of h.2⟩
theorem resAV_rel {E : Env} {xs : List A1} {vs : List Value} (h : AVsRel E (xs.map AV.one) vs) : AVRel E (resAV xs) (pack vs) := by
  match xs, vs, h with
  | [], [], h => exact ⟨[], rfl, trivial⟩
  | [x], [v], h => exact h.1
  | x :: y :: xs, u :: v :: vs, h => exact ⟨u :: v :: vs, rfl, A1sRel.of h⟩
end

section
variable {P : Program} {tt : TT} {C : Cx} {S : St} {a : Act} {w : World} {ρ : Place} {Fs : Nat → FP}
/-- The callee's side. -/
def callCx (C : Cx) (S : St) (w : World) (Fs : Nat → FP) (F : FP) (rc : List Nat) (h : ∀ b, Zlent C w S.nx Fs rc b ∨ C.Zf w (sumTo S.nx Fs) b → b < w.heap.size ∧ F b = 0) : Cx :=
  { w0 := w, F0 := F, Zl := Zlent C w S.nx Fs rc, Zf0 := C.Zf w (sumTo S.nx Fs), N := 0, kv := [], good := h }
theorem MRel.old (m : MRel C S.hp S.nx w ρ Fs) {b : Nat} (h : C.Zl b ∨ C.Zf0 b) : b < w.heap.size ∧ sumTo S.nx Fs b = 0 := by
  obtain ⟨g1, g2⟩ := C.good b h
  have := m.frame.size
  refine ⟨by omega, ?_⟩
  rcases Nat.eq_zero_or_pos (sumTo S.nx Fs b) with e | e
  · exact e
  · obtain ⟨_, k⟩ := m.mine b e; omega
theorem disjoint_sound : ∀ {l m : List Nat}, disjoint l m = true → ∀ x ∈ l, x ∉ m
  | [], m, _, x, hx => by simp at hx
  | y :: l, m, h, x, hx => by
    obtain ⟨h1, h2⟩ := and_bool h
    rcases List.mem_cons.1 hx with rfl | hx
    · intro hm; rw [List.elem_iff.2 hm] at h1; cases h1
    · exact disjoint_sound h2 x hx
theorem Fs_lt (m : MRel C S.hp S.nx w ρ Fs) {id b : Nat} (h : 1 ≤ Fs id b) : id < S.nx := by
  rcases Nat.lt_or_ge id S.nx with k | k
  · exact k
  · rw [m.dead id (m.fresh id k)] at h; simp at h
theorem call_good (m : MRel C S.hp S.nx w ρ Fs) {F : FP} {ks rc : List Nat} (hk : ks.Nodup) (hlt : ∀ k ∈ ks, k < S.nx) (hF : ∀ b, F b ≤ sumL Fs ks b) (hd : ∀ k ∈ ks, k ∉ rc) : ∀ b, Zlent C w S.nx Fs rc b ∨ C.Zf w (sumTo S.nx Fs) b → b < w.heap.size ∧ F b = 0 := by
  intro b hb
  have hle := sumL_le Fs b S.nx hk hlt
  have hFb := hF b
  have zf : C.Zf w (sumTo S.nx Fs) b → b < w.heap.size ∧ F b = 0 := fun h => by
    rcases h with h | ⟨_, h1, h2⟩
    · obtain ⟨k1, k2⟩ := m.old (.inr h); exact ⟨k1, by omega⟩
    · exact ⟨h1, by omega⟩
  rcases hb with (hb | ⟨id, hid, hb⟩) | hb
  · rcases hb with hb | hb
    · obtain ⟨k1, k2⟩ := m.old (.inl hb); exact ⟨k1, by omega⟩
    · exact zf hb
  · have hi := Fs_lt m hb
    have h1 := sumL_out Fs b S.nx hk hlt hi (fun h => hd id h hid)
    have h2 := m.one b
    have h3 := m.mine b (by have := sumTo_le Fs b hi; omega)
    exact ⟨h3.1, by omega⟩
  · exact zf hb
theorem lentKill_upd (hp : Nat → Option Root) (oc : Cls) (rc : List Nat) : upd hp (lentKill oc rc) = kill hp (match oc with | .lent => rc | _ => []) := by
  cases oc with
  | lent => exact upd_kill hp rc
  | _ => funext j; simp [lentKill, upd, kill]
def killedOf (oc : Cls) (ks rc : List Nat) : List Nat := ks ++ (match oc with | .lent => rc | _ => [])
theorem kill_kill (hp : Nat → Option Root) (ks ls : List Nat) : kill (kill hp ks) ls = kill hp (ks ++ ls) := by
  funext j
  simp only [kill_at, List.mem_append]
  by_cases h1 : j ∈ ls <;> by_cases h2 : j ∈ ks <;> simp [h1, h2]
/-- Every new name is given. -/
def Named (n n' : Nat) (up : List (Nat × Option Root)) : Prop := n ≤ n' ∧ (∀ p ∈ up, n ≤ p.1 ∧ p.1 < n') ∧ ∀ j, n ≤ j → j < n' → ∃ p ∈ up, p.1 = j
theorem Named.nil (n : Nat) : Named n n [] := ⟨Nat.le_refl _, by simp, fun j h1 h2 => by omega⟩
theorem Named.join {n m n' : Nat} {up up' : List (Nat × Option Root)} (h : Named n m up) (h' : Named m n' up') : Named n n' (up ++ up') := by
  obtain ⟨a1, a2, a3⟩ := h
  obtain ⟨b1, b2, b3⟩ := h'
  refine ⟨by omega, fun p hp => ?_, fun j h1 h2 => ?_⟩
  · rcases List.mem_append.1 hp with hp | hp
    · have := a2 p hp; omega
    · have := b2 p hp; omega
  · rcases Nat.lt_or_ge j m with k | k
    · obtain ⟨p, hp, e⟩ := a3 j h1 k; exact ⟨p, by simp [hp], e⟩
    · obtain ⟨p, hp, e⟩ := b3 j k h2; exact ⟨p, by simp [hp], e⟩
theorem inLeaf_named {tt : TT} {t n n' : Nat} {d : DL} {x : LV} {up : List (Nat × Option Root)} (hi : inLeaf tt t d n = some (x, up, n')) : Named n n' up := by
  cases d with
  | sl c r =>
    cases c with
    | own =>
      simp only [inLeaf] at hi
      split at hi
      · cases hi
        exact ⟨by omega, by simp, fun j h1 h2 => ⟨_, List.mem_singleton.2 rfl, by show n = j; omega⟩⟩
      · cases hi
    | _ => cases hi; exact Named.nil _
  | _ => cases hi; exact Named.nil _
theorem inLeafs_named {tt : TT} : ∀ (ts : List Nat) (ds : List DL) (n n' : Nat) (xs : List LV) (up : List (Nat × Option Root)), inLeafs tt ts ds n = some (xs, up, n') → Named n n' up
  | [], [], n, n', xs, up, hi => by cases hi; exact Named.nil _
  | [], _ :: _, _, _, _, _, hi => by simp [inLeafs] at hi
  | _ :: _, [], _, _, _, _, hi => by simp [inLeafs] at hi
  | t :: ts, d :: ds, n, n', xs, up, hi => by
    simp only [inLeafs] at hi
    split at hi
    · rename_i x up1 m h1
      split at hi
      · rename_i ys up2 n2 h2
        cases hi
        exact (inLeaf_named h1).join (inLeafs_named ts ds _ _ _ _ h2)
      · cases hi
    · cases hi
theorem inArg_named {tt : TT} {t n n' : Nat} {d : DV} {x : A1} {up : List (Nat × Option Root)} {oc : Cls} (hc : clsV oc d) (hi : inArg tt t d n = some (.one x, up, n')) : Named n n' up := by
  cases d with
  | l d =>
    simp only [inArg] at hi
    split at hi
    · rename_i y up1 m h1; cases hi; exact inLeaf_named h1
    · cases hi
  | agg ds =>
    simp only [inArg] at hi
    split at hi
    · rename_i ys up1 m h1; cases hi; exact inLeafs_named _ _ _ _ _ _ h1
    · cases hi
  | ptr ds => exact hc.elim
theorem inArgs_named {tt : TT} {oc : Cls} : ∀ (ts : List Nat) (ds : List DV) (n n' : Nat) (xs : List A1) (up : List (Nat × Option Root)), (∀ d ∈ ds, clsV oc d) → inArgs tt ts ds n = some (xs.map AV.one, up, n') → Named n n' up
  | [], [], n, n', xs, up, _, hi => by
    simp only [inArgs, Option.some.injEq, Prod.mk.injEq] at hi
    obtain ⟨_, rfl, rfl⟩ := hi
    exact Named.nil _
  | [], _ :: _, _, _, _, _, _, hi => by simp [inArgs] at hi
  | _ :: _, [], _, _, _, _, _, hi => by simp [inArgs] at hi
  | t :: ts, d :: ds, n, n', xs, up, hc, hi => by
    simp only [inArgs] at hi
    split at hi
    · rename_i x up1 m h1
      split at hi
      · rename_i ys up2 n2 h2
        simp only [Option.some.injEq, Prod.mk.injEq] at hi
        obtain ⟨e1, rfl, rfl⟩ := hi
        cases xs with
        | nil => simp at e1
        | cons y zs =>
          simp only [List.map_cons, List.cons.injEq] at e1
          obtain ⟨rfl, rfl⟩ := e1
          exact (inArg_named (hc d (by simp)) h1).join (inArgs_named ts ds _ _ _ _ (fun d hd => hc d (by simp [hd])) h2)
      · cases hi
    · cases hi
theorem upd_in : ∀ (up : List (Nat × Option Root)) {hp hp' : Nat → Option Root} {j : Nat}, (∃ p ∈ up, p.1 = j) → upd hp up j = upd hp' up j := by
  intro up
  induction up with
  | nil => rintro hp hp' j ⟨p, h, _⟩; simp at h
  | cons p up ih =>
    rintro hp hp' j ⟨q, h, e⟩
    obtain ⟨i, r⟩ := p
    simp only [upd]
    rcases List.mem_cons.1 h with rfl | h
    · simp only [] at e
      subst e
      exact upd_base _ (by simp)
    · exact ih ⟨q, h, e⟩
theorem sumTo_kil_mem (Fs : Nat → FP) (kl : List Nat) (b : Nat) {n id : Nat} (hid : id < n) (hk : id ∈ kl) : sumTo n (kilF Fs kl) b + Fs id b ≤ sumTo n Fs b := by
  have h1 := sumTo_put (kilF Fs kl) (Fs id) b hid
  have h2 : kilF Fs kl id = fz := by simp [kilF, hk]
  rw [h2] at h1
  have h3 : ∀ m, sumTo m (putF (kilF Fs kl) id (Fs id)) b ≤ sumTo m Fs b := fun m => by
    induction m with
    | zero => exact Nat.le_refl _
    | succ m ih =>
      have : putF (kilF Fs kl) id (Fs id) m b ≤ Fs m b := by
        unfold putF
        split
        · rename_i e; subst e; exact Nat.le_refl _
        · exact kilF_le Fs kl m b
      simp only [sumTo, fadd_at]; omega
  have := h3 n
  simp at h1
  omega
/-! ### What comes back through the arguments -/
/-- Roots that come back: what they hold, and whose it is. -/
structure BackOK (C : Cx) (S : St) (w : World) (ρ : Place) (w' : World) (ZL : Zs) (ids : List Nat) (up : List (Nat × Option Root)) (F : FP) (Gk : Nat → FP) : Prop where
  out : ∀ j, j ∉ ids → Gk j = fz
  sum : ∀ b, sumTo S.nx Gk b = F b
  keys : ∀ p ∈ up, p.1 ∈ ids
  roots : ∀ id ∈ ids, ∃ e ver r0 r1, S.hp id = some (.row e ver r0) ∧ (∀ hp, upd hp up id = some (.row e (ver + 1) r1)) ∧ r1.len = r0.len ∧ r1.size = r0.size ∧ (∀ f, r1.slAt f = r0.slAt f) ∧ r1.owned = true ∧ RowRel w' ZL (ρ id) r1.cells r1.len r1.size (Gk id)
theorem BackOK.nil {w' : World} {ZL : Zs} : BackOK C S w ρ w' ZL [] [] fz (fun _ => fz) :=
  ⟨fun _ _ => rfl, fun b => sumTo_fz _ b _ (fun _ _ => rfl), by simp, by simp⟩
theorem BackOK.join {w' : World} {ZL : Zs} {ids ids' : List Nat} {up up' : List (Nat × Option Root)} {F F' : FP} {Gk Gk' : Nat → FP} (h : BackOK C S w ρ w' ZL ids up F Gk) (h' : BackOK C S w ρ w' ZL ids' up' F' Gk') (hnd : (ids ++ ids').Nodup) : BackOK C S w ρ w' ZL (ids ++ ids') (up ++ up') (fadd F F') (fun j => fadd (Gk j) (Gk' j)) := by
  obtain ⟨n1, n2, n3⟩ := List.nodup_append.1 hnd
  refine ⟨fun j hj => ?_, fun b => ?_, fun p hp => ?_, fun id hid => ?_⟩
  · have h1 : j ∉ ids := fun hh => hj (by simp [hh])
    have h2 : j ∉ ids' := fun hh => hj (by simp [hh])
    rw [h.out j h1, h'.out j h2, fadd_fz]
  · rw [sumTo_add, h.sum, h'.sum]; rfl
  · rcases List.mem_append.1 hp with hp | hp
    · simp [h.keys p hp]
    · simp [h'.keys p hp]
  · rcases List.mem_append.1 hid with hi | hi
    · have hni : id ∉ ids' := fun hh => n3 id hi id hh rfl
      obtain ⟨e, ver, r0, r1, g1, g2, g3, g4, g5, g5', g6⟩ := h.roots id hi
      refine ⟨e, ver, r0, r1, g1, fun hp => ?_, g3, g4, g5, g5', by rw [h'.out id hni, fadd_fz]; exact g6⟩
      rw [upd_append, upd_out _ _ (fun p hp e2 => hni (by rw [← e2]; exact h'.keys p hp))]
      exact g2 hp
    · have hni : id ∉ ids := fun hh => n3 id hh id hi rfl
      obtain ⟨e, ver, r0, r1, g1, g2, g3, g4, g5, g5', g6⟩ := h'.roots id hi
      refine ⟨e, ver, r0, r1, g1, fun hp => ?_, g3, g4, g5, g5', by rw [h.out id hni, fz_fadd]; exact g6⟩
      rw [upd_append]
      exact g2 _
theorem hdr_inj {q q' : Option (Nat × Nat)} {n n' : Nat} (h : hdr q n = hdr q' n') (h0 : q = none → n = 0) (h0' : q' = none → n' = 0) : q = q' ∧ n = n' := by
  cases q with
  | none => cases q' with
    | none => exact ⟨rfl, by rw [h0 rfl, h0' rfl]⟩
    | some p => obtain ⟨b, c⟩ := p; simp [hdr] at h
  | some p =>
    obtain ⟨b, c⟩ := p
    cases q' with
    | none => simp [hdr] at h
    | some p' =>
      obtain ⟨b', c'⟩ := p'
      simp only [hdr, Value.slice.injEq, Option.some.injEq, Addr.mk.injEq] at h
      obtain ⟨⟨rfl, _⟩, rfl, rfl⟩ := h
      exact ⟨rfl, rfl⟩
theorem RowRel.nil_len {w : World} {Z : Zs} {q : Option (Nat × Nat)} {cs : List Cell} {len size : Nat} {F : FP} (h : RowRel w Z q cs len size F) (hq : q = none) : len = 0 := by
  rcases h with h | ⟨b, cap, arr, ty, F', g1, _⟩
  · exact h.2.1
  · rw [hq] at g1; cases g1
theorem RowRel.anyZ {w : World} {Z Z' : Zs} {q : Option (Nat × Nat)} {r : Row} {F : FP} (h : RowRel w Z q r.cells r.len r.size F) (ho : r.owned = true) : RowRel w Z' q r.cells r.len r.size F := by
  rcases h with h | ⟨b, cap, arr, ty, F', g1, g2, g3, g4, g5, g6⟩
  · exact .inl h
  · exact .inr ⟨b, cap, arr, ty, F', g1, g2, g3, g4, owned_any (owned_cells ho) g5, g6⟩
theorem backLeaf_main {R : Type} {r : R} (m : MRel C S.hp S.nx w ρ Fs) {w' : World} {Zf ZL : Zs} {x : LV} {d : DL} {v : Value} {F : FP} {K : List (Nat × Option Root) → Option R} (hx : LVRel (C.env w ρ S.hp S.nx Fs) x v) (hd : DLRel w' Zf ZL d v F) (h : backLeaf S.hp x d K = some r) :
    ∃ up Gk, K up = some r ∧ BackOK C S w ρ w' ZL (ownLV x) up F Gk := by
  have plain : F = fz → ownLV x = [] → K [] = some r → ∃ up Gk, K up = some r ∧ BackOK C S w ρ w' ZL (ownLV x) up F Gk := fun h1 h2 h3 => by
    subst h1; rw [h2]; exact ⟨[], _, h3, BackOK.nil⟩
  cases x with
  | i k n =>
    have hx : v = .int k n := hx
    subst hx
    refine plain ?_ rfl h
    cases d with
    | i k' n' => exact hd.2
    | b z => exact hd.2
    | s z => exact hd.2
    | er z => cases z <;> exact hd.2
    | sl c r =>
      cases c with
      | frz => exact hd.2
      | lent => exact hd.2
      | own => obtain ⟨q, e, _⟩ := hd; cases q <;> cases e
  | b z =>
    have hx : v = .bool z := hx
    subst hx
    refine plain ?_ rfl h
    cases d with
    | i k' n' => exact hd.2
    | b z => exact hd.2
    | s z => exact hd.2
    | er z => cases z <;> exact hd.2
    | sl c r =>
      cases c with
      | frz => exact hd.2
      | lent => exact hd.2
      | own => obtain ⟨q, e, _⟩ := hd; cases q <;> cases e
  | s z =>
    have hx : v = .string z := hx
    subst hx
    refine plain ?_ rfl h
    cases d with
    | i k' n' => exact hd.2
    | b z => exact hd.2
    | s z => exact hd.2
    | er z => cases z <;> exact hd.2
    | sl c r =>
      cases c with
      | frz => exact hd.2
      | lent => exact hd.2
      | own => obtain ⟨q, e, _⟩ := hd; cases q <;> cases e
  | er z =>
    refine plain ?_ rfl h
    cases d with
    | i k' n' => exact hd.2
    | b z => exact hd.2
    | s z => exact hd.2
    | er z => cases z <;> exact hd.2
    | sl c r =>
      cases c with
      | frz => exact hd.2
      | lent => exact hd.2
      | own =>
        obtain ⟨q, e, _⟩ := hd
        cases z with
        | true => have hx : v = .nilIface := hx; subst hx; cases q <;> cases e
        | false => obtain ⟨t, y, hx⟩ := (show ∃ t x, v = .iface t x from hx); subst hx; cases q <;> cases e
  | nil =>
    have hx : v = .slice none 0 0 := hx
    subst hx
    refine plain ?_ rfl h
    cases d with
    | i k' n' => exact hd.2
    | b z => exact hd.2
    | s z => exact hd.2
    | er z => cases z <;> exact hd.2
    | sl c r =>
      cases c with
      | frz => exact hd.2
      | lent => exact hd.2
      | own =>
        obtain ⟨q, e, hr⟩ := hd
        cases q with
        | some p => obtain ⟨b, c⟩ := p; simp [hdr] at e
        | none =>
          rcases hr with hr | ⟨b, cap, arr, ty, F', g1, _⟩
          · exact hr.2.2
          · cases g1
  | own id =>
    obtain ⟨hlt, hx⟩ := hx
    have hlt : id < S.nx := hlt
    have fin : ∀ (e ver : Nat) (r0 r1 : Row), S.hp id = some (.row e ver r0) → d = .sl .own r1 → r1.size = r0.size → (∀ f, r1.slAt f = r0.slAt f) → r1.owned = true → K [(id, some (.row e (ver + 1) r1))] = some r → ∃ up Gk, K up = some r ∧ BackOK C S w ρ w' ZL (ownLV (.own id)) up F Gk := fun e ver r0 r1 hr hde hs hsl how hK => by
      subst hde
      obtain ⟨q, hv, hrr⟩ := hd
      obtain ⟨r', e1, e2⟩ := hx _ hr
      cases e1
      have h0 := m.roots id _ hr
      have h0' : RowRel w (C.ZL w (sumTo S.nx Fs)) (ρ id) r0.cells r0.len r0.size (Fs id) := h0
      obtain ⟨rfl, hlen⟩ := hdr_inj (e2.symm.trans hv) (fun hq => h0'.nil_len hq) (fun hq => hrr.nil_len hq)
      refine ⟨_, putF (fun _ => fz) id F, hK, fun j hj => ?_, fun b => ?_, ?_, ?_⟩
      · exact putF_ne _ _ (fun e => hj (by simp [ownLV, e]))
      · have := sumTo_put (fun _ => fz) F b hlt
        rw [sumTo_fz _ b _ (fun _ _ => rfl)] at this
        simpa using this
      · simp [ownLV]
      · intro i hi
        simp only [ownLV, List.mem_singleton] at hi
        subst hi
        exact ⟨e, ver, r0, r1, hr, fun hp => by rw [upd_one, if_pos rfl], hlen.symm, hs, hsl, how, by rw [putF_self]; exact hrr⟩
    simp only [backLeaf] at h
    split at h
    · rename_i e ver k l hr
      obtain ⟨l', hde, hK⟩ := dInts_some h
      exact fin _ _ _ _ hr hde rfl (fun _ => rfl) rfl hK
    · rename_i e ver l hr
      obtain ⟨l', hde, hK⟩ := dBools_some h
      exact fin _ _ _ _ hr hde rfl (fun _ => rfl) rfl hK
    · rename_i e ver l hr
      obtain ⟨l', hde, hK⟩ := dStrs_some h
      exact fin _ _ _ _ hr hde rfl (fun _ => rfl) rfl hK
    · rename_i e ver l hr
      obtain ⟨l', hde, hK⟩ := dRows_some h
      exact fin _ _ _ _ hr hde rfl (fun _ => rfl) rfl hK
    · rename_i e ver sg l hr
      obtain ⟨l', hde, hK⟩ := dRecs_some h
      exact fin _ _ _ _ hr hde rfl (fun _ => rfl) rfl hK
    · cases h
  | _ => cases h
theorem backLeafs_main {R : Type} {r : R} (m : MRel C S.hp S.nx w ρ Fs) {w' : World} {Zf ZL : Zs} : ∀ {xs : List LV} {ds : List DL} {vs : List Value} {F : FP} {K : List (Nat × Option Root) → Option R}, LVsRel (C.env w ρ S.hp S.nx Fs) xs vs → DLsRel w' Zf ZL ds vs F → backLeafs S.hp xs ds K = some r → (xs.flatMap ownLV).Nodup →
    ∃ up Gk, K up = some r ∧ BackOK C S w ρ w' ZL (xs.flatMap ownLV) up F Gk
  | [], ds, [], F, K, _, hd, h, _ => by
    obtain ⟨rfl, hK⟩ := lNil_some h
    have : F = fz := hd
    subst this
    exact ⟨[], _, hK, BackOK.nil⟩
  | x :: xs, ds, v :: vs, F, K, hx, hd, h, hnd => by
    obtain ⟨d, ds', rfl, h1⟩ := lHead_some h
    obtain ⟨F1, F2, d1, d2, rfl⟩ := hd
    obtain ⟨up, Gk, h2, b1⟩ := backLeaf_main m hx.1 d1 h1
    rw [List.flatMap_cons] at hnd ⊢
    obtain ⟨up', Gk', h3, b2⟩ := backLeafs_main m hx.2 d2 h2 (List.nodup_append.1 hnd).2.1
    exact ⟨_, _, h3, b1.join b2 hnd⟩
theorem backAV_main {R : Type} {r : R} (m : MRel C S.hp S.nx w ρ Fs) {w' : World} {Zf ZL : Zs} {x : AV} {d : DV} {v : Value} {F : FP} {K : List (Nat × Option Root) → Option R} (hx : AVRel (C.env w ρ S.hp S.nx Fs) x v) (hd : DVRel w' Zf ZL d v F) (h : backAV S.hp x d K = some r) (hnd : (ownAV x).Nodup) :
    ∃ up Gk, K up = some r ∧ BackOK C S w ρ w' ZL (ownAV x) up F Gk := by
  match x, h with
  | .one (.l x), h =>
    obtain ⟨d', rfl, h1⟩ := dL_some h
    exact backLeaf_main m hx hd h1
  | .one (.agg xs), h =>
    obtain ⟨ds, rfl, h1⟩ := dAgg_some h
    obtain ⟨vs, rfl, hx⟩ := hx
    obtain ⟨vs', e, hd⟩ := hd
    have : vs = vs' := by simpa using e
    subst this
    exact backLeafs_main m hx hd h1 hnd
theorem backs_main {R : Type} {r : R} (m : MRel C S.hp S.nx w ρ Fs) {w' : World} {Zf ZL : Zs} : ∀ {ms : List Mode} {xs : List AV} {ds : List DV} {vs : List Value} {F : FP} {K : List (Nat × Option Root) → Option R}, AVsRel (C.env w ρ S.hp S.nx Fs) xs vs → DVsRel w' Zf ZL ds (ioVals ms vs) F → backs S.hp ms xs ds K = some r → (ioIds ms xs).Nodup →
    ∃ up Gk, K up = some r ∧ BackOK C S w ρ w' ZL (ioIds ms xs) up F Gk
  | [], xs, ds, vs, F, K, hx, hd, h, hnd => by
    obtain ⟨rfl, hK⟩ := dNil_some (show dNil ds (K []) = some r by simpa [backs] using h)
    have e : ioVals [] vs = [] := by simp [ioVals]
    rw [e] at hd
    have : F = fz := hd
    subst this
    exact ⟨[], _, hK, by simpa [ioIds] using BackOK.nil⟩
  | md :: ms, [], ds, [], F, K, hx, hd, h, hnd => by
    have h : dNil ds (K []) = some r := by cases md <;> simpa [backs] using h
    obtain ⟨rfl, hK⟩ := dNil_some h
    have e : ioVals (md :: ms) [] = [] := by simp [ioVals]
    rw [e] at hd
    have : F = fz := hd
    subst this
    have e2 : ioIds (md :: ms) [] = [] := by cases md <;> simp [ioIds]
    exact ⟨[], _, hK, by rw [e2]; exact BackOK.nil⟩
  | .io :: ms, x :: xs, ds, v :: vs, F, K, hx, hd, h, hnd => by
    simp only [backs] at h
    obtain ⟨d, ds', rfl, h1⟩ := dHead_some h
    have e : ioVals (.io :: ms) (v :: vs) = v :: ioVals ms vs := by simp [ioVals]
    rw [e] at hd
    obtain ⟨F1, F2, d1, d2, rfl⟩ := hd
    have e2 : ioIds (.io :: ms) (x :: xs) = ownAV x ++ ioIds ms xs := by simp [ioIds]
    rw [e2] at hnd ⊢
    obtain ⟨up, Gk, h2, b1⟩ := backAV_main m hx.1 d1 h1 (List.nodup_append.1 hnd).1
    obtain ⟨up', Gk', h3, b2⟩ := backs_main m hx.2 d2 h2 (List.nodup_append.1 hnd).2.1
    exact ⟨_, _, h3, b1.join b2 hnd⟩
  | .bor :: ms, x :: xs, ds, v :: vs, F, K, hx, hd, h, hnd => by
    simp only [backs] at h
    have e : ioVals (.bor :: ms) (v :: vs) = ioVals ms vs := by simp [ioVals]
    rw [e] at hd
    have e2 : ioIds (.bor :: ms) (x :: xs) = ioIds ms xs := by simp [ioIds]
    rw [e2] at hnd ⊢
    exact backs_main m hx.2 hd h hnd
  | .mov :: ms, x :: xs, ds, v :: vs, F, K, hx, hd, h, hnd => by
    simp only [backs] at h
    have e : ioVals (.mov :: ms) (v :: vs) = ioVals ms vs := by simp [ioVals]
    rw [e] at hd
    have e2 : ioIds (.mov :: ms) (x :: xs) = ioIds ms xs := by simp [ioIds]
    rw [e2] at hnd ⊢
    exact backs_main m hx.2 hd h hnd
theorem DVsRel.split {w : World} {Zf ZL : Zs} : ∀ {ds es : List DV} {us vs : List Value} {F : FP}, ds.length = us.length → DVsRel w Zf ZL (ds ++ es) (us ++ vs) F → ∃ F1 F2, DVsRel w Zf ZL ds us F1 ∧ DVsRel w Zf ZL es vs F2 ∧ F = fadd F1 F2
  | [], es, [], vs, F, _, h => ⟨fz, F, rfl, h, (fz_fadd F).symm⟩
  | d :: ds, es, u :: us, vs, F, hl, h => by
    obtain ⟨F1, F2, h1, h2, rfl⟩ := h
    obtain ⟨G1, G2, g1, g2, rfl⟩ := DVsRel.split (by simpa using hl) h2
    exact ⟨fadd F1 G1, G2, ⟨F1, G1, h1, g1, rfl⟩, g2, (fadd_assoc ..).symm⟩
theorem inArgs_len {tt : TT} : ∀ (ts : List Nat) (ds : List DV) (n : Nat) {xs : List AV} {up : List (Nat × Option Root)} {n' : Nat}, inArgs tt ts ds n = some (xs, up, n') → xs.length = ts.length ∧ ds.length = ts.length
  | [], [], n, xs, up, n', h => by simp only [inArgs, Option.some.injEq, Prod.mk.injEq] at h; obtain ⟨rfl, _⟩ := h; exact ⟨rfl, rfl⟩
  | [], _ :: _, _, _, _, _, h => by simp [inArgs] at h
  | _ :: _, [], _, _, _, _, h => by simp [inArgs] at h
  | t :: ts, d :: ds, n, xs, up, n', h => by
    simp only [inArgs] at h
    split at h
    · split at h
      · rename_i h2
        cases h
        obtain ⟨k1, k2⟩ := inArgs_len ts ds _ h2
        exact ⟨by simp [k1], by simp [k2]⟩
      · cases h
    · cases h
/-- A call's end, for its caller. -/
theorem call_back {R : Type} {r : R} (h : SRel C S a w ρ Fs) {g : Sig} {F : FP} {ks io rc : List Nat} {args : List Value} {ax : List AV} (hax : AVsRel (C.env w ρ S.hp S.nx Fs) ax args) (hio : io = ioIds g.modes ax) (hk : (ks ++ io).Nodup) (hks : RowsAt S.hp (ks ++ io)) (hF : ∀ b, F b ≤ sumL Fs (ks ++ io) b) (hd : ∀ k ∈ ks ++ io, k ∉ rc)
    {rs rs' : List DV} {xs : List A1} {up : List (Nat × Option Root)} {n n' : Nat} (hin : inArgs tt g.results rs n = some (xs.map AV.one, up, n')) (hcl : ∀ d ∈ rs, clsV g.oc d) (hn : n' ≤ S.nx) (hg : ∀ k, n ≤ k → k < n' → S.hp k = some .ghost)
    {K : List (Nat × Option Root) → Option R} (hK : backs S.hp g.modes ax rs' K = some r)
    {e : Ending} {w' : World} (he : Ends (callCx C S w Fs F rc (call_good h.mem hk (hks.lt h.mem) hF hd)) g args (rs ++ rs') e w') :
    ∃ v ρ' Fs' up', e = .returned v ∧ K up' = some r ∧ (∀ p ∈ up', p.1 ∈ io) ∧ (∀ b, b < w.heap.size → F b = 0 → w'.heap[b]? = w.heap[b]?) ∧ (∀ id, id < S.nx → (∀ root, S.hp id = some root → root.real) → ρ' id = ρ id) ∧ (∀ id root root', S.hp id = some root → root.real → id ∉ io → upd S.hp (killUp ks ++ lentKill g.oc rc ++ up ++ up') id = some root' → Fs' id = Fs id) ∧
      (∀ id ∈ io, ∃ e ver r0 r1, S.hp id = some (.row e ver r0) ∧ (∀ hp, upd hp up' id = some (.row e (ver + 1) r1)) ∧ r1.len = r0.len) ∧
      SRel C ⟨S.sl, upd S.hp (killUp ks ++ lentKill g.oc rc ++ up ++ up'), S.nx⟩ a w' ρ' Fs' ∧ AVRel (C.env w' ρ' (upd S.hp (killUp ks ++ lentKill g.oc rc ++ up ++ up')) S.nx Fs') (resAV xs) v := by
  obtain ⟨vs, F', he, hlen, hfr, hone, hmine, hrel⟩ := he
  have hlt := hks.lt h.mem
  have hgood := call_good h.mem hk hlt hF hd
  generalize hall' : ks ++ io = kg at *
  generalize hKl : killedOf g.oc kg rc = kl
  obtain ⟨hnle, hkeys, hall⟩ := inArgs_named _ _ _ _ _ _ hcl hin
  have hksub : ∀ k ∈ kg, k ∈ kl := fun k hk => by rw [← hKl]; simp [killedOf, hk]
  have hiosub : ∀ k ∈ io, k ∈ kg := fun k hk => by rw [← hall']; simp [hk]
  have hsz : w.heap.size ≤ w'.heap.size := hfr.size
  have hfb : ∀ b, b < w.heap.size → F b = 0 → w'.heap[b]? = w.heap[b]? := fun b h1 h2 => hfr.block b h1 h2
  have hmine : ∀ b, 1 ≤ F' b → b < w'.heap.size ∧ (w.heap.size ≤ b ∨ 1 ≤ F b) := hmine
  have hkF : ∀ b, sumTo S.nx (kilF Fs kl) b + F b ≤ sumTo S.nx Fs b := fun b => by
    have h1 := sumTo_kil Fs b S.nx kg hk hlt
    have h2 : ∀ m, sumTo m (kilF Fs kl) b ≤ sumTo m (kilF Fs kg) b := fun m => by
      induction m with
      | zero => exact Nat.le_refl _
      | succ m ih =>
        have : kilF Fs kl m b ≤ kilF Fs kg m b := by
          unfold kilF
          by_cases e1 : m ∈ kg
          · simp [e1, hksub m e1]
          · rw [if_neg e1]; split <;> simp
        simp only [sumTo, fadd_at]; omega
    have h3 := hF b
    have := h2 S.nx
    omega
  have hghF : ∀ k, n ≤ k → k < n' → Fs k = fz := fun k h1 h2 => h.mem.roots k _ (hg k h1 h2)
  let T : FP := fun b => sumTo S.nx (kilF Fs kl) b + F' b
  have hone0 := h.mem.one
  have hmine0 := h.mem.mine
  have hsz0 := h.mem.frame.size
  have hZf : ∀ b, (callCx C S w Fs F rc hgood).Zf w' F' b → C.Zf w' T b := fun b hb => by
    have k1 := hkF b
    have k2 := hone0 b
    have k3 := hmine0 b
    have k4 := hmine b
    rcases hb with hb | ⟨hb1, hb2, hb3⟩
    · have hb : C.Zf w (sumTo S.nx Fs) b := hb
      rcases hb with hb | ⟨c1, c2, c3⟩
      · exact .inl hb
      · refine .inr ⟨c1, by omega, ?_⟩
        show sumTo S.nx (kilF Fs kl) b + F' b = 0
        rcases Nat.eq_zero_or_pos (F' b) with z | z
        · omega
        · have := k4 z; omega
    · have hb1 : w.heap.size ≤ b ∨ 1 ≤ F b := hb1
      refine .inr ⟨?_, hb2, ?_⟩
      · rcases hb1 with hb1 | hb1
        · exact .inl (by omega)
        · exact (k3 (by omega)).2
      · show sumTo S.nx (kilF Fs kl) b + F' b = 0
        rcases hb1 with hb1 | hb1
        · rcases Nat.eq_zero_or_pos (sumTo S.nx Fs b) with z | z
          · omega
          · have := k3 z; omega
        · omega
  obtain ⟨Fr, Fk, hrel1, hrel2, hFF⟩ := hrel.split (by rw [(inArgs_len _ _ _ hin).2, hlen])
  have hres : DVsRel w' (C.Zf w' T) (C.ZL w' T) rs vs Fr := by
    by_cases hoc : g.oc = .lent
    · refine hrel1.grow hZf (fun b hb => ?_)
      rcases hb with hb | hb
      · have hb : Zlent C w S.nx Fs rc b := hb
        rcases hb with hb | ⟨id, hid, hb⟩
        · rcases hb with hb | hb
          · exact .inl hb
          · exact .inr (hZf b (.inl hb))
        · obtain ⟨g1, g2⟩ := hgood b (.inl (.inr ⟨id, hid, hb⟩))
          have hi := Fs_lt h.mem hb
          have hkl : id ∈ kl := by rw [← hKl]; simp [killedOf, hoc, hid]
          have k1 := sumTo_kil_mem Fs kl b hi hkl
          have k2 := hone0 b
          have k3 := hmine0 b (by omega)
          refine .inr (.inr ⟨k3.2, by omega, ?_⟩)
          show sumTo S.nx (kilF Fs kl) b + F' b = 0
          rcases Nat.eq_zero_or_pos (F' b) with z | z
          · omega
          · have := hmine b z; omega
      · exact .inr (hZf b hb)
    · exact (hrel1.noLent hoc hcl).grow hZf (fun b hb => hb)
  obtain ⟨ρ1, Fs1, f1, r1⟩ := inArgs_sound _ _ _ _ _ _ _ _ hin hres
  obtain ⟨up', Gk, hK', b1⟩ := backs_main h.mem hax hrel2 hK (by rw [← hio]; rw [← hall'] at hk; exact (List.nodup_append.1 hk).2.1)
  rw [← hio] at b1
  have hioreal : ∀ id ∈ io, ∃ root, S.hp id = some root ∧ root.real := fun id hid => by
    obtain ⟨e, ver, r0, r1, g1, _⟩ := b1.roots id hid
    exact ⟨_, g1, trivial⟩
  have hiolt : ∀ id ∈ io, id < S.nx := fun id hid => hlt id (hiosub id hid)
  have hion : ∀ id ∈ io, ¬ (n ≤ id ∧ id < n') := fun id hid hh => by
    obtain ⟨root, e1, e2⟩ := hioreal id hid
    rw [hg id hh.1 hh.2] at e1; cases e1; exact e2
  have hup : upd S.hp (killUp ks ++ lentKill g.oc rc ++ up ++ up') = upd (upd (kill S.hp kl) up) up' := by
    rw [upd_append]
    funext j
    by_cases hj : ∃ p ∈ up', p.1 = j
    · exact upd_in _ hj
    · have hj' : ∀ p ∈ up', p.1 ≠ j := fun p hp e => hj ⟨p, hp, e⟩
      rw [upd_out _ _ hj', upd_out _ _ hj']
      by_cases hjn : ∃ p ∈ up, p.1 = j
      · rw [upd_append]; exact upd_in _ hjn
      · have hjn' : ∀ p ∈ up, p.1 ≠ j := fun p hp e => hjn ⟨p, hp, e⟩
        rw [upd_append, upd_out _ _ hjn', upd_out _ _ hjn', upd_append, upd_kill, lentKill_upd, kill_kill]
        have hjio : j ∉ io := fun hh => by
          obtain ⟨e, ver, r0, r1, g1, g2, _⟩ := b1.roots j hh
          have := g2 (fun _ => none)
          rw [upd_out _ _ hj'] at this
          cases this
        rw [kill_at, kill_at]
        have : j ∈ kl ↔ j ∈ ks ++ (match g.oc with | .lent => rc | _ => []) := by
          rw [← hKl, ← hall']
          simp only [killedOf, List.mem_append, hjio, or_false]
        by_cases hh : j ∈ kl
        · rw [if_pos (this.1 hh), if_pos hh]
        · rw [if_neg (fun h => hh (this.2 h)), if_neg hh]
  let Fs' : Nat → FP := fun j => fadd (kilF Fs kl j) (fadd (Fs1 j) (Gk j))
  let ρ' : Place := fun j => if n ≤ j ∧ j < n' then ρ1 j else ρ j
  have hsum : sumTo S.nx Fs' = T := by
    funext b
    show sumTo S.nx (fun j => fadd (kilF Fs kl j) (fadd (Fs1 j) (Gk j))) b = _
    have e1 := sumTo_add S.nx b (kilF Fs kl) (fun j => fadd (Fs1 j) (Gk j))
    have e2 := sumTo_add S.nx b Fs1 Gk
    have e3 := sumTo_more (Fs := Fs1) b hn (fun j h1 _ => by rw [f1.out j (.inr h1)]; rfl)
    have e4 := f1.sum b
    have e5 := b1.sum b
    have e6 : F' b = Fr b + Fk b := by rw [hFF]; rfl
    show _ = sumTo S.nx (kilF Fs kl) b + F' b
    omega
  have hin' : ∀ j, n ≤ j → j < n' → upd (upd (kill S.hp kl) up) up' j = upd nohp up j := fun j h1 h2 => by
    rw [upd_out _ up' (fun p hp e => hion j (by rw [← e]; exact b1.keys p hp) ⟨h1, h2⟩)]
    exact upd_in _ (hall j h1 h2)
  have hout' : ∀ j, ¬ (n ≤ j ∧ j < n') → j ∉ io → upd (upd (kill S.hp kl) up) up' j = kill S.hp kl j := fun j hj hji => by
    rw [upd_out _ up' (fun p hp e => hji (by rw [← e]; exact b1.keys p hp))]
    exact upd_out _ _ (fun p hp e => by have := hkeys p hp; omega)
  have hFrom : ∀ j, n ≤ j → j < n' → Fs' j = Fs1 j := fun j h1 h2 => by
    show fadd (kilF Fs kl j) (fadd (Fs1 j) (Gk j)) = Fs1 j
    have e1 : kilF Fs kl j = fz := by unfold kilF; split; rfl; exact hghF j h1 h2
    have e2 : Gk j = fz := b1.out j (fun hh => hion j hh ⟨h1, h2⟩)
    rw [e1, e2, fadd_fz, fz_fadd]
  have hFio : ∀ j ∈ io, Fs' j = Gk j := fun j hj => by
    show fadd (kilF Fs kl j) (fadd (Fs1 j) (Gk j)) = Gk j
    have e1 : kilF Fs kl j = fz := by simp [kilF, hksub j (hiosub j hj)]
    have e2 : Fs1 j = fz := f1.out j (by have := hion j hj; omega)
    rw [e1, e2, fz_fadd, fz_fadd]
  have hFel : ∀ j, ¬ (n ≤ j ∧ j < n') → j ∉ io → Fs' j = kilF Fs kl j := fun j h1 h2 => by
    show fadd (kilF Fs kl j) (fadd (Fs1 j) (Gk j)) = _
    rw [f1.out j (by omega), b1.out j h2, fadd_fz, fadd_fz]
  have hext : Ext w' (C.Zf w' T) (C.ZL w' T) n n' up ρ1 (C.env w' ρ' (upd (upd (kill S.hp kl) up) up') S.nx Fs') := by
    refine ⟨rfl, fun b hb => ?_, fun b hb => ?_, fun j h1 h2 => ?_, hin', hn⟩
    · show C.Zf w' (sumTo S.nx Fs') b; rw [hsum]; exact hb
    · show C.ZL w' (sumTo S.nx Fs') b; rw [hsum]; exact hb
    · show (if n ≤ j ∧ j < n' then ρ1 j else ρ j) = ρ1 j
      rw [if_pos ⟨h1, h2⟩]
  have hρ : ∀ id, id < S.nx → (∀ root, S.hp id = some root → root.real) → ρ' id = ρ id := fun id hid hre => by
    show (if n ≤ id ∧ id < n' then ρ1 id else ρ id) = ρ id
    rw [if_neg]
    rintro ⟨h1, h2⟩
    exact hre _ (hg id h1 h2)
  have hioZL : ∀ b, (callCx C S w Fs F rc hgood).ZL w' F' b → True := fun _ _ => trivial
  refine ⟨pack vs, ρ', Fs', up', he, hK', b1.keys, hfb, hρ, fun id root root' hr hre hnio hq => ?_, fun id hid => ?_, ?_, by rw [hup]; exact resAV_rel (r1 _ hext)⟩
  · have hjn : ¬ (n ≤ id ∧ id < n') := fun hh => by
      rw [hg id hh.1 hh.2] at hr; cases hr; exact hre
    rw [hup, hout' id hjn hnio, kill_at] at hq
    have hnkl : id ∉ kl := fun hh => by rw [if_pos hh] at hq; cases hq
    rw [hFel id hjn hnio]; simp [kilF, hnkl]
  · obtain ⟨e, ver, r0, r1, g1, g2, g3, _⟩ := b1.roots id hid
    exact ⟨e, ver, r0, r1, g1, g2, g3⟩
  rw [hup]
  refine h.gen (upd (upd (kill S.hp kl) up) up') S.nx w' ρ' Fs' (fun b => 1 ≤ F b) hsz hfr.os hfr.tape hfr.output (fun b h1 h2 => hfb b h1 (by omega)) (fun b hb => by have := hkF b; omega) (Nat.le_refl _) hρ (fun j hj => ?_) (fun j hj => ?_) (fun b => ?_) (fun b hb => ?_)
  · by_cases hjn : n ≤ j ∧ j < n'
    · have hFj := hFrom j hjn.1 hjn.2
      cases hq : upd (upd (kill S.hp kl) up) up' j with
      | none => exact .gone hq (by rw [hFj]; exact f1.dead j (by rw [← hin' j hjn.1 hjn.2]; exact hq))
      | some root' => exact .turned .ghost root' (hg j hjn.1 hjn.2) hq trivial (fun M => by rw [hFj]; exact f1.roots _ hext j root' (by rw [← hin' j hjn.1 hjn.2]; exact hq))
    · by_cases hji : j ∈ io
      · obtain ⟨e, ver, r0, r1, g1, g2, g3, g4, g5, g5', g6⟩ := b1.roots j hji
        refine .turned _ (.row e (ver + 1) r1) g1 (g2 _) ⟨g3, g4, by omega, g5, fun hh => by omega⟩ (fun M => ?_)
        rw [hFio j hji]
        show RowRel w' (C.ZL w' (sumTo S.nx Fs')) (ρ' j) r1.cells r1.len r1.size (Gk j)
        rw [hρ j hj (fun root hr => by rw [g1] at hr; cases hr; trivial), hsum]
        exact g6.anyZ g5'
      · have hFj := hFel j hjn hji
        by_cases hjk : j ∈ kl
        · exact .gone (by rw [hout' j hjn hji, kill_at, if_pos hjk]) (by rw [hFj]; simp [kilF, hjk])
        · refine .same (by rw [hout' j hjn hji, kill_at, if_neg hjk]) (by rw [hFj]; simp [kilF, hjk]) (fun b h1 h2 => ?_)
          have := sumL_out Fs b S.nx hk hlt hj (fun h => hjk (hksub j h))
          have := hF b
          have := hone0 b
          omega
  · have hji : j ∉ io := fun hh => by have := hiolt j hh; omega
    refine .inl ⟨?_, ?_⟩
    · rw [hout' j (by omega) hji, kill_at]; split; rfl; exact h.mem.fresh j hj
    · rw [hFel j (by omega) hji]
      unfold kilF; split; rfl; exact h.mem.dead j (h.mem.fresh j hj)
  · rw [hsum]
    show sumTo S.nx (kilF Fs kl) b + F' b ≤ 1
    have k1 := hkF b
    have k2 := hone0 b
    have k3 := hone b
    rcases Nat.eq_zero_or_pos (F' b) with z | z
    · omega
    · have := hmine b z
      rcases Nat.eq_zero_or_pos (sumTo S.nx Fs b) with z2 | z2
      · omega
      · have := hmine0 b z2; omega
  · rw [hsum] at hb
    have hb : 1 ≤ sumTo S.nx (kilF Fs kl) b + F' b := hb
    have k1 := hkF b
    rcases Nat.eq_zero_or_pos (F' b) with z | z
    · left; omega
    · have := hmine b z; omega
end
end Go.Proofs.Ytfkejiljabmaaaa.V
