/- How a law's row is met: its arguments by their kinds; what they read as behind the call. Conditions: none. -/
import Derived.Test.YtfkejiljabmaaaaVArg
set_option linter.unusedVariables false
namespace Go.Proofs.Ytfkejiljabmaaaa.V
open Go

section
variable {tt : TT}
theorem okVs_cons {t : Nat} {ts : List Nat} {dvs : List DV} (h : okVs tt (t :: ts) dvs) : ∃ d ds, dvs = d :: ds ∧ okV tt t d ∧ okVs tt ts ds := by
  cases dvs with
  | nil => exact h.elim
  | cons d ds => exact ⟨d, ds, rfl, h.1, h.2⟩
theorem okVs_nil {dvs : List DV} (h : okVs tt [] dvs) : dvs = [] := by
  cases dvs with
  | nil => rfl
  | cons d ds => exact h.elim
theorem okLs_cons {t : Nat} {ts : List Nat} {dvs : List DL} (h : okLs tt (t :: ts) dvs) : ∃ d ds, dvs = d :: ds ∧ okL tt t d ∧ okLs tt ts ds := by
  cases dvs with
  | nil => exact h.elim
  | cons d ds => exact ⟨d, ds, rfl, h.1, h.2⟩
theorem okLs_nil {dvs : List DL} (h : okLs tt [] dvs) : dvs = [] := by
  cases dvs with
  | nil => rfl
  | cons d ds => exact h.elim
theorem okV_agg {t s b : Nat} {fs : List (Nat × Nat)} (ht : tt t = some ⟨.struct fs, s, b⟩) {d : DV} (h : okV tt t d) : ∃ ds, d = .agg ds ∧ okLs tt (leafTypes tt depth t) ds := by
  unfold okV at h; rw [ht] at h; exact h
theorem okV_l {t : Nat} (ht : isStruct tt t = false) {d : DV} (h : okV tt t d) : ∃ x, d = .l x ∧ okL tt t x := by
  unfold okV at h
  split at h
  · rename_i q; simp [isStruct, q] at ht
  · exact h
theorem okL_int {t s b : Nat} {k : IntKind} (ht : tt t = some ⟨.int k, s, b⟩) {d : DL} (h : okL tt t d) : ∃ n, d = .i k n ∧ wfI k n := by
  unfold okL at h; rw [ht] at h; exact h
theorem okL_bool {t s b : Nat} (ht : tt t = some ⟨.bool, s, b⟩) {d : DL} (h : okL tt t d) : ∃ n, d = .b n := by
  unfold okL at h; rw [ht] at h; exact h
theorem okL_str {t s b : Nat} (ht : tt t = some ⟨.str, s, b⟩) {d : DL} (h : okL tt t d) : ∃ n, d = .s n ∧ n.size ≤ maxLen := by
  unfold okL at h; rw [ht] at h; exact h
theorem okL_row {t e s b : Nat} (ht : tt t = some ⟨.slice e, s, b⟩) {r0 : Row} (h0 : emptyRow tt e = some r0) {d : DL} (h : okL tt t d) : ∃ r, d = .sl .lent r ∧ frRow r0 r ∧ rowWf r ∧ r.len ≤ maxLen := by
  unfold okL at h; rw [ht] at h
  obtain ⟨r0', r, h1, h2, h3⟩ := h
  rw [h0] at h1; cases h1
  exact ⟨r, h2, h3⟩
theorem okL_ints {t e s b : Nat} {k : IntKind} (ht : tt t = some ⟨.slice e, s, b⟩) (h0 : emptyRow tt e = some (.ints k [])) {d : DL} (h : okL tt t d) : ∃ l, d = .sl .lent (.ints k l) ∧ (∀ n ∈ l, wfI k n) ∧ l.length ≤ maxLen := by
  obtain ⟨r, h1, h2, h3, h4⟩ := okL_row ht h0 h
  cases r with
  | ints k' l => cases (show k' = k from h2); exact ⟨l, h1, h3, h4⟩
  | _ => exact h2.elim
theorem okL_bools {t e s b : Nat} (ht : tt t = some ⟨.slice e, s, b⟩) (h0 : emptyRow tt e = some (.bools [])) {d : DL} (h : okL tt t d) : ∃ l, d = .sl .lent (.bools l) ∧ l.length ≤ maxLen := by
  obtain ⟨r, h1, h2, h3, h4⟩ := okL_row ht h0 h
  cases r with
  | bools l => exact ⟨l, h1, h4⟩
  | _ => exact h2.elim
theorem okL_strs {t e s b : Nat} (ht : tt t = some ⟨.slice e, s, b⟩) (h0 : emptyRow tt e = some (.strs [])) {d : DL} (h : okL tt t d) : ∃ l, d = .sl .lent (.strs l) ∧ (∀ s ∈ l, s.size ≤ maxLen) ∧ l.length ≤ maxLen := by
  obtain ⟨r, h1, h2, h3, h4⟩ := okL_row ht h0 h
  cases r with
  | strs l => exact ⟨l, h1, h3, h4⟩
  | _ => exact h2.elim
theorem okL_rows {t e s b : Nat} (ht : tt t = some ⟨.slice e, s, b⟩) (h0 : emptyRow tt e = some (.rows true [])) {d : DL} (h : okL tt t d) : ∃ l, d = .sl .lent (.rows false l) ∧ (∀ r ∈ l, r.length ≤ maxLen ∧ ∀ n ∈ r, wfI .i64 n) ∧ l.length ≤ maxLen := by
  obtain ⟨r, h1, h2, h3, h4⟩ := okL_row ht h0 h
  cases r with
  | rows o l => cases (show o = false from h2); exact ⟨l, h1, h3, h4⟩
  | _ => exact h2.elim
theorem okL_recs {t e s b : Nat} {sg : List Bool} (ht : tt t = some ⟨.slice e, s, b⟩) (h0 : emptyRow tt e = some (.recs sg true [])) {d : DL} (h : okL tt t d) : ∃ l, d = .sl .lent (.recs sg false l) ∧ (∀ r ∈ l, recWf sg r) ∧ l.length ≤ maxLen := by
  obtain ⟨r, h1, h2, h3, h4⟩ := okL_row ht h0 h
  cases r with
  | recs sg' o l => obtain ⟨rfl, rfl⟩ := (show sg' = sg ∧ o = false from h2); exact ⟨l, h1, h3, h4⟩
  | _ => exact h2.elim
end
section
variable {P : Program} {H : Type} {enc : TypeId × Value → H}
theorem trodAll_below (hl : laidOutB P = true) {W W' : World} (hb : Go.RowKit.Below W.heap.size W W') : ∀ {ts : List Nat} {vs : List Value} {ds : List (DataW H)} {ps : List MemPlace}, (ts.all fun t => P.readableRec t && Nat.blt t P.types.size) = true → DataW.TrodAll enc P W 0 (fun _ => true) true ts vs ds ps → DataW.TrodAll enc P W' 0 (fun b => decide (b < W.heap.size)) true ts vs ds ps
  | [], [], [], _, _, h => h
  | [], [], _ :: _, _, _, h => h.elim
  | [], _ :: _, [], _, _, h => h.elim
  | [], _ :: _, _ :: _, _, _, h => h.elim
  | _ :: _, [], [], _, _, h => h.elim
  | _ :: _, [], _ :: _, _, _, h => h.elim
  | _ :: _, _ :: _, [], _, _, h => h.elim
  | t :: ts, v :: vs, d :: ds, ps, hs, h => by
    obtain ⟨p, q, h1, h2, h3⟩ := h
    simp only [List.all_cons, Bool.and_eq_true] at hs
    have hlt : t < P.types.size := by simpa [Nat.blt_eq] using hs.1.2
    have lt : ∀ x ∈ p, x.block < W.heap.size := by obtain ⟨m, hm⟩ := h1; exact DataW.trod_lt m _ _ _ hm
    exact ⟨p, q, Go.RowKit.Below.trod hl hs.1.1 hlt h1 hb lt, trodAll_below hl hb hs.2 h2, h3⟩
end
end Go.Proofs.Ytfkejiljabmaaaa.V
