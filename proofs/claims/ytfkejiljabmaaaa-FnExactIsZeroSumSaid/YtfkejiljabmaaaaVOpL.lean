/- What the operations do: append. Conditions: the types' table holds of the program. -/
import Derived.Test.YtfkejiljabmaaaaVOpK
import Derived.Deep.Upon
set_option linter.unusedVariables false
set_option linter.unusedSimpArgs false
namespace Go.Proofs.Ytfkejiljabmaaaa.V
open Go

section
variable {P : Program} {tt : TT} {C : Cx} {S : St} {a : Act} {w : World} {ρ : Place} {Fs : Nat → FP} {n : Nat}

/-- Blocks given up, but for one. -/
def Zx (C : Cx) (w : World) (nx : Nat) (Fs : Nat → FP) (ks : List Nat) (X : Nat) (F : FP) : Zs := fun b' => C.ZL w (sumTo nx Fs) b' ∨ (1 ≤ sumL Fs ks b' ∧ F b' = 0 ∧ b' ≠ X)
theorem cells_sealX {ks : List Nat} {X : Nat} {cs ct cf : List Cell} {vs : List Value} {F : FP} (h : CellsRel w (C.ZL w (sumTo S.nx Fs)) cs vs F) (hF : ∀ b, F b ≤ sumL Fs ks b) (hX : F X = 0) (o : Bool) (h1 : o = true → ct = cs) (h2 : o = false → cf = cs.map Cell.frz) : ∃ F', CellsRel w (Zx C w S.nx Fs ks X F') (if o then ct else cf) vs F' ∧ (∀ b, F' b ≤ sumL Fs ks b) ∧ F' X = 0 := by
  cases o with
  | true => rw [h1 rfl]; exact ⟨F, h.mono (fun b hb => ⟨.inl hb, rfl⟩) (fun b _ => rfl), hF, hX⟩
  | false =>
    rw [h2 rfl]
    refine ⟨fz, h.frz (fun b hb => .inl hb) (fun b' hb => .inr ⟨Nat.le_trans hb (hF b'), rfl, ?_⟩), fun b => by simp, rfl⟩
    rintro rfl; omega
theorem SRel.remake (h : SRel C S a w ρ Fs) (hg : S.hp n = some .ghost) (ks : List Nat) (hks : ks.Nodup) (hlive : ∀ k ∈ ks, ∃ r, S.hp k = some r ∧ r.real) (X cap : Nat) (arr : Array Value) (ty : TypeId) (e : Nat) (r : Row) (F : FP) (w' : World)
    (hX : (X = w.heap.size ∧ w'.heap.size = w.heap.size + 1) ∨ (1 ≤ sumL Fs ks X ∧ w'.heap.size = w.heap.size)) (hsame : ∀ b, b < w.heap.size → b ≠ X → w'.heap[b]? = w.heap[b]?) (hcell : w'.heap[X]? = some (.cells arr ty (0, 0))) (hos : w'.os = w.os) (htp : w'.tape = w.tape) (hout : w'.output = w.output)
    (hc : CellsRel w (Zx C w S.nx Fs ks X F) r.cells arr.toList F) (hF : ∀ b, F b ≤ sumL Fs ks b) (hFX : F X = 0) (h1 : r.len ≤ cap) (h2 : cap * r.size ≤ arr.size) :
    SRel C ⟨S.sl, upd S.hp (killUp ks ++ [(n, some (.row e 0 r))]), S.nx⟩ a w' (newρ ρ n (some (X, cap))) (putF (kilF Fs ks) n (fadd (f1 X) F)) := by
  have hk : ∀ k ∈ ks, k < S.nx := fun k h' => by
    obtain ⟨r, k1, _⟩ := hlive k h'
    exact live_lt h.mem k1
  have own : ∀ b, 1 ≤ sumL Fs ks b → b < w.heap.size ∧ (C.w0.heap.size ≤ b ∨ 1 ≤ C.F0 b) := fun b hb => h.mem.mine b (Nat.le_trans hb (sumL_le Fs b S.nx hks hk))
  refine h.make hg ks hks hlive (.row e 0 r) (some (X, cap)) _ w' (by rcases hX with ⟨_, h⟩ | ⟨_, h⟩ <;> omega) hos htp hout (fun b hb h0 => hsame b hb ?_) (fun b => ?_) (fun M => ?_)
  · rintro rfl
    rcases hX with ⟨h, _⟩ | ⟨h, _⟩ <;> omega
  · have := hF b
    by_cases e : b = X
    · subst e
      rcases hX with ⟨k1, k2⟩ | ⟨k1, k2⟩
      · rw [if_pos (by omega)]; simp; omega
      · simp; omega
    · simp [f1_at, e]; omega
  · refine .inr ⟨X, cap, arr, ty, F, newρ_self .., hcell, h1, h2, hc.mono (fun b hb => ?_) (fun b hb => ?_), rfl⟩
    · rcases hb with hb | ⟨hb1, hb2, hb3⟩
      · exact M.zl b hb
      · obtain ⟨o1, o2⟩ := own b hb1
        refine ⟨.inr (.inr ⟨o2, by show b < w'.heap.size; rcases hX with ⟨_, h⟩ | ⟨_, h⟩ <;> omega, ?_⟩), hsame b o1 hb3⟩
        have g1 := sumTo_put (kilF Fs ks) (fadd (f1 X) F) b (live_lt h.mem hg)
        have g2 := sumTo_kil Fs b S.nx ks hks hk
        have g3 := h.mem.one b
        have g4 : f1 X b = 0 := by rw [f1_at, if_neg hb3]
        simp [g4] at g1
        omega
    · refine hsame b (own b (Nat.le_trans hb (hF b))).1 ?_
      rintro rfl; omega
/-- Nothing, under a new name. -/
theorem SRel.remake_nil (h : SRel C S a w ρ Fs) (hg : S.hp n = some .ghost) (ks : List Nat) (hks : ks.Nodup) (hlive : ∀ k ∈ ks, ∃ r, S.hp k = some r ∧ r.real) (e : Nat) (r : Row) (hl : r.len = 0) (w' : World) (hw : w'.heap = w.heap) (hos : w'.os = w.os) (htp : w'.tape = w.tape) (hout : w'.output = w.output) :
    SRel C ⟨S.sl, upd S.hp (killUp ks ++ [(n, some (.row e 0 r))]), S.nx⟩ a w' (newρ ρ n none) (putF (kilF Fs ks) n fz) :=
  h.make hg ks hks hlive (.row e 0 r) none _ w' (by rw [hw]; exact Nat.le_refl _) hos htp hout (fun b hb _ => by rw [hw]) (fun b => by simp) (fun M => .inl ⟨newρ_self .., hl, rfl⟩)

/-! ### What is added -/
def Cell.ok : Cell → Prop
  | .sc v => v.oneCell' = true
  | .sl _ _ => True
  | .free => False
theorem row_ok (r : Row) : ∀ c ∈ r.cells, c.ok := by
  intro c hc
  cases r with
  | ints k l => simp only [Row.cells, List.mem_map] at hc; obtain ⟨x, _, rfl⟩ := hc; rfl
  | bools l => simp only [Row.cells, List.mem_map] at hc; obtain ⟨x, _, rfl⟩ := hc; rfl
  | strs l => simp only [Row.cells, List.mem_map] at hc; obtain ⟨x, _, rfl⟩ := hc; rfl
  | rows o l => simp only [Row.cells, List.mem_map] at hc; obtain ⟨x, _, rfl⟩ := hc; trivial
  | recs sg o l =>
    simp only [Row.cells, List.mem_flatMap] at hc
    obtain ⟨x, _, hc⟩ := hc
    obtain ⟨j, hj⟩ := List.getElem?_of_mem hc
    rw [recCells_get] at hj
    cases hs : sg[j]? with
    | none => rw [hs] at hj; cases hj
    | some b => rw [hs] at hj; cases b <;> (simp at hj; subst hj) <;> first | rfl | trivial
theorem cell_ok_one {w : World} {Z : Zs} {c : Cell} {v : Value} {F : FP} (hc : c.ok) (h : CellRel w Z c v F) : v.oneCell' = true := by
  cases c with
  | sc u => obtain ⟨rfl, _⟩ := h; exact hc
  | sl o l => obtain ⟨A, cap, hv, _⟩ := sl_hdr h; rw [hv]; rfl
  | free => exact hc.elim
theorem cells_one {w : World} {Z : Zs} : ∀ {cs : List Cell} {vs : List Value} {F : FP}, (∀ c ∈ cs, c.ok) → CellsRel w Z cs vs F → vs.length ≤ cs.length → ∀ u ∈ vs, u.oneCell' = true
  | [], [], _, _, _, _, u, hu => by cases hu
  | [], v :: vs, _, _, _, hl, u, hu => by simp at hl
  | c :: cs, v :: vs, F, hc, ⟨F1, F2, h1, h2, hF⟩, hl, u, hu => by
    rcases List.mem_cons.1 hu with rfl | hu
    · exact cell_ok_one (hc c (by simp)) h1
    · exact cells_one (fun c' hc' => hc c' (by simp [hc'])) h2 (by simpa using hl) u hu
theorem plain_fz {w : World} {Z : Zs} : ∀ {cs : List Cell} {vs : List Value} {F : FP}, (∀ c ∈ cs, (∃ v, c = .sc v) ∨ ∃ l, c = .sl false l) → CellsRel w Z cs vs F → F = fz
  | [], _, _, _, h => h
  | c :: cs, v :: vs, F, hc, ⟨F1, F2, h1, h2, hF⟩ => by
    have e2 := plain_fz (fun c' hc' => hc c' (by simp [hc'])) h2
    have e1 : F1 = fz := by
      rcases hc c (by simp) with ⟨u, rfl⟩ | ⟨l, rfl⟩
      · exact h1.2
      · exact h1.1
    rw [hF, e1, e2, fadd_fz]
theorem scalars_any {w : World} {Z Z' : Zs} : ∀ {cs : List Cell} {vs : List Value} {F : FP}, (∀ c ∈ cs, ∃ v, c = .sc v) → CellsRel w Z cs vs F → CellsRel w Z' cs vs F
  | [], _, _, _, h => h
  | c :: cs, v :: vs, F, hc, ⟨F1, F2, h1, h2, hF⟩ => by
    obtain ⟨u, rfl⟩ := hc c (by simp)
    exact ⟨F1, F2, h1, scalars_any (fun c' hc' => hc c' (by simp [hc'])) h2, hF⟩
def Row.loose : Row → Bool
  | .rows true _ => false
  | .recs _ true _ => false
  | _ => true
theorem loose_cells {r : Row} (h : r.loose = true) : ∀ c ∈ r.cells, (∃ v, c = .sc v) ∨ ∃ l, c = .sl false l := by
  intro c hc
  cases r with
  | ints k l => simp only [Row.cells, List.mem_map] at hc; obtain ⟨x, _, rfl⟩ := hc; exact .inl ⟨_, rfl⟩
  | bools l => simp only [Row.cells, List.mem_map] at hc; obtain ⟨x, _, rfl⟩ := hc; exact .inl ⟨_, rfl⟩
  | strs l => simp only [Row.cells, List.mem_map] at hc; obtain ⟨x, _, rfl⟩ := hc; exact .inl ⟨_, rfl⟩
  | rows o l => cases o with
    | true => cases h
    | false => simp only [Row.cells, List.mem_map] at hc; obtain ⟨x, _, rfl⟩ := hc; exact .inr ⟨_, rfl⟩
  | recs sg o l => cases o with
    | true => cases h
    | false =>
      simp only [Row.cells, List.mem_flatMap] at hc
      obtain ⟨x, _, hc⟩ := hc
      obtain ⟨j, hj⟩ := List.getElem?_of_mem hc
      rw [recCells_get] at hj
      cases hs : sg[j]? with
      | none => rw [hs] at hj; cases hj
      | some b => rw [hs] at hj; cases b <;> (simp at hj; subst hj) <;> first | exact .inl ⟨_, rfl⟩ | exact .inr ⟨_, rfl⟩
/-- A row of the call's own, cut. -/
theorem own_src (m : MRel C S.hp S.nx w ρ Fs) {id e ver : Nat} {r : Row} (hroot : S.hp id = some (.row e ver r)) {lo hi : Nat} (h1 : lo ≤ hi) (h2 : hi ≤ r.len) {tx e' : TypeId} (hk : P.underlying tx = some (.slice e')) :
    ∃ news F, Src P r.size tx (subHdr (ρ id) r.size lo hi) (hi - lo) news w ∧ CellsRel w (C.ZL w (sumTo S.nx Fs)) ((r.take hi).drop lo).cells news F ∧ ∀ b, F b ≤ Fs id b := by
  rcases m.roots id _ hroot with ⟨g1, g2, g3⟩ | ⟨b, cap, arr, ty, F', g1, g2, g3, g4, g5, g6⟩
  · simp only [Cx.env] at g1
    have e1 : lo = 0 := by omega
    have e2 : hi = 0 := by omega
    subst e1 e2
    refine ⟨[], fz, by rw [g1]; exact Src.ofNil w hk 0, ?_, fun b => by simp⟩
    rw [row_nil (by rw [drop_len, take_len]; omega)]
    rfl
  · simp only [Cx.env] at g1 g2
    obtain ⟨F1, t1, t2⟩ := g5.take (hi * r.size)
    obtain ⟨F2, t3, t4⟩ := t1.drop (lo * r.size)
    have hcl : ((r.take hi).drop lo).cells = (r.cells.take (hi * r.size)).drop (lo * r.size) := by rw [drop_cells, take_cells, take_size]
    rw [← hcl] at t3
    have hale : r.cells.length ≤ arr.size := by have := g5.length; simpa using this
    have hrl : r.cells.length = r.len * r.size := Row.cells_length r
    have hm1 : hi * r.size ≤ r.len * r.size := Nat.mul_le_mul_right _ h2
    have hm2 : lo * r.size ≤ hi * r.size := Nat.mul_le_mul_right _ h1
    have hnl : ((arr.toList.take (hi * r.size)).drop (lo * r.size)).length = (hi - lo) * r.size := by
      rw [Nat.sub_mul]; simp; omega
    refine ⟨_, F2, ?_, t3, fun b => ?_⟩
    · rw [g1]
      simp only [subHdr]
      refine Src.ofSlice w hk _ _ _ _ hnl (fun j u hj => ?_) (cells_one (row_ok _) t3 (by rw [hnl, Row.cells_length, drop_len, take_len, drop_size, take_size]; exact Nat.mul_le_mul_right _ (by omega)))
      rw [List.getElem?_drop, List.getElem?_take] at hj
      split at hj
      · rename_i hjl
        split
        · rename_i hc
          exfalso
          have : hi = lo := by omega
          subst this
          omega
        · rw [plain_add, cell?_plain g2]
          simpa using hj
      · cases hj
    · have := t2 b; have := t4 b; rw [g6]; simp; omega
theorem take_all (r : Row) : (r.take r.len).drop 0 = r := by
  cases r <;> simp [Row.take, Row.drop, Row.len]
theorem hdr_sub (q : Option (Nat × Nat)) (s n : Nat) : subHdr q s 0 n = hdr q n := by
  cases q with
  | none => rfl
  | some q => obtain ⟨b, cap⟩ := q; simp only [subHdr, hdr, Nat.zero_mul, Nat.sub_zero]; split <;> rfl
theorem frz_src {Z : Zs} {r : Row} {v : Value} (h : FrzRow w Z r v) {tx e' : TypeId} (hk : P.underlying tx = some (.slice e')) : ∃ news, Src P r.size tx v r.len news w ∧ CellsRel w Z r.cells news fz := by
  obtain ⟨A, cap, h1, h2, h3⟩ := h
  subst h1
  rcases Nat.eq_zero_or_pos r.len with h0 | h0
  · refine ⟨[], ?_, by rw [row_nil h0]; rfl⟩
    rw [h0]
    cases A with
    | none => exact Src.ofNil w hk cap
    | some ad => exact Src.ofSlice w hk ad 0 cap [] (by simp) (by simp) (by simp)
  · obtain ⟨ad, rfl, hz, vs, g1, g2⟩ := h3 (by omega)
    have hl := g2.length
    have g3 := g2.shrink
    have hnl : (vs.take r.cells.length).length = r.cells.length := by simp; omega
    refine ⟨vs.take r.cells.length, Src.ofSlice w hk ad _ cap _ (by rw [hnl, Row.cells_length]) (fun j u hj => ?_) (cells_one (row_ok _) g3 (by omega)), g3⟩
    rw [List.getElem?_take] at hj
    split at hj
    · rw [g1 j ‹_›]; exact hj
    · cases hj
theorem added_sound (m : MRel C S.hp S.nx w ρ Fs) {r0 : Row} {x : LV} {y : Row} {ks rc : List Nat} (he : added S.hp r0 x = some (y, ks, rc)) (h0 : r0.len = 0) {tx : TypeId} (htx : (∃ s, x = .s s) ∨ ∃ e', P.underlying tx = some (.slice e')) (hts : ∀ s, x = .s s → P.underlying tx = some .string) {v : Value} (hv : LVRel (C.env w ρ S.hp S.nx Fs) x v) :
    ∃ news F, Src P y.size tx v y.len news w ∧ CellsRel w (C.ZL w (sumTo S.nx Fs)) y.cells news F ∧ (∀ b, F b ≤ sumL Fs ks b) ∧ Took S.hp ks ∧ ∀ k ∈ ks, k ∈ rc := by
  have hsl : (∀ s, x ≠ .s s) → ∃ e', P.underlying tx = some (.slice e') := fun hn => by
    rcases htx with ⟨s, h⟩ | h
    · exact absurd h (hn s)
    · exact h
  unfold added at he
  split at he
  · cases he
    obtain ⟨e', hk⟩ := hsl (by simp)
    have hv : v = .slice none 0 0 := hv
    rw [hv, h0, row_nil h0]
    exact ⟨[], fz, Src.ofNil w hk 0, rfl, fun b => by simp, Took.nil _, by simp⟩
  · rename_i id
    obtain ⟨e', hk⟩ := hsl (by simp)
    split at he
    · rename_i e ver r hroot
      obtain ⟨_, hx⟩ := hv
      obtain ⟨r', e1, e2⟩ := hx _ hroot
      cases e1
      obtain ⟨news, F, s1, s2, s3⟩ := own_src (P := P) m hroot (Nat.zero_le _) (Nat.le_refl r.len) hk
      rw [hdr_sub, Nat.sub_zero] at s1
      rw [take_all] at s2
      simp only [Cx.env] at e2
      rw [← e2] at s1
      have big : y = r → ks = [id] → rc = [id] → ∃ news F, Src P y.size tx v y.len news w ∧ CellsRel w (C.ZL w (sumTo S.nx Fs)) y.cells news F ∧ (∀ b, F b ≤ sumL Fs ks b) ∧ Took S.hp ks ∧ ∀ k ∈ ks, k ∈ rc := fun hy hks hrc => by
        subst hy hks hrc
        exact ⟨news, F, s1, s2, fun b => by have := s3 b; simp [sumL]; exact this, ⟨by simp, fun k hk => by simp at hk; subst hk; exact ⟨_, _, _, hroot⟩⟩, fun k hk => hk⟩
      split at he
      · cases he; exact big rfl rfl rfl
      · cases he; exact big rfl rfl rfl
      · rename_i hn1 hn2
        cases he
        have hlo : y.loose = true := by
          cases y with
          | rows o l => cases o <;> first | rfl | exact absurd rfl (hn1 _)
          | recs sg o l => cases o <;> first | rfl | exact absurd rfl (hn2 _ _)
          | _ => rfl
        have hF := plain_fz (loose_cells hlo) s2
        subst hF
        exact ⟨news, fz, s1, s2, fun b => by simp, Took.nil _, by simp⟩
    · cases he
  · rename_i id lo hi
    obtain ⟨e', hk⟩ := hsl (by simp)
    split at he
    · rename_i e ver r hroot
      obtain ⟨_, hx⟩ := hv
      obtain ⟨r', e1, l1, l2, e2⟩ := hx _ hroot
      cases e1
      obtain ⟨news, F, s1, s2, s3⟩ := own_src (P := P) m hroot l1 l2 hk
      simp only [Cx.env] at e2
      rw [← e2] at s1
      have hlen : ((r.take hi).drop lo).len = hi - lo := by rw [drop_len, take_len]; omega
      have hsz : ((r.take hi).drop lo).size = r.size := by rw [drop_size, take_size]
      split at he
      · cases he
      · cases he
      · rename_i hn1 hn2
        cases he
        have hlo : ((r.take hi).drop lo).loose = true := by
          cases r with
          | rows o l => cases o <;> first | rfl | exact absurd rfl (hn1 _)
          | recs sg o l => cases o <;> first | rfl | exact absurd rfl (hn2 _ _)
          | _ => rfl
        have hF := plain_fz (loose_cells hlo) s2
        subst hF
        rw [hlen, hsz]
        exact ⟨news, fz, s1, s2, fun b => by simp, Took.nil _, by simp⟩
    · cases he
  · rename_i s
    cases he
    have hv : v = .string s := hv
    rw [hv]
    refine ⟨byteCells s, fz, ?_, ?_, fun b => by simp, Took.nil _, by simp⟩
    · have := Src.ofString (P := P) w (hts s rfl) s
      have hl : (Row.ints .u8 (s.data.toList.map fun b => (b.toNat : Int))).len = s.size := by simp [Row.len] <;> rfl
      rw [hl]
      exact this
    · simp only [Row.cells, byteCells, List.map_map]
      generalize s.data.toList = l
      induction l with
      | nil => rfl
      | cons b l ih => exact ⟨fz, fz, ⟨rfl, rfl⟩, ih, (fadd_fz _).symm⟩
  · rename_i x' hn1 hn2 hn3 hn4
    obtain ⟨e', hk⟩ := hsl (fun s hs => hn4 s hs)
    split at he
    · rename_i r rc' hvr
      cases he
      have hfz := viewRow_sound m hvr hv
      obtain ⟨news, s1, s2⟩ := frz_src (P := P) hfz hk
      cases x with
      | val p r' =>
        simp only [viewRow, Option.some.injEq, Prod.mk.injEq] at hvr
        obtain ⟨rfl, rfl⟩ := hvr
        exact ⟨news, fz, s1, s2.mono (fun b hb => ⟨(by rcases hb with hb | ⟨k, hk, _⟩ <;> first | exact hb | (cases hk; done)), rfl⟩) (fun b _ => rfl), fun b => by simp, Took.nil _, by simp⟩
      | inner id ver i f =>
        have : ∃ l, y = .ints .i64 l := by
          simp only [viewRow] at hvr
          split at hvr
          · obtain ⟨_, hvr⟩ := bif_some hvr; cases hvr; exact ⟨_, rfl⟩
          · obtain ⟨_, hvr⟩ := bif_some hvr; cases hvr; exact ⟨_, rfl⟩
          · cases hvr
        obtain ⟨l, rfl⟩ := this
        exact ⟨news, fz, s1, scalars_any (fun c hc => by simp only [Row.cells, List.mem_map] at hc; obtain ⟨x, _, rfl⟩ := hc; exact ⟨_, rfl⟩) s2, fun b => by simp, Took.nil _, by simp⟩
      | own id => exact absurd rfl (hn2 id)
      | sub id lo hi => exact absurd rfl (hn3 id lo hi)
      | _ => simp [viewRow] at hvr
    · cases he

/-! ### append -/
theorem app_facts {base y r : Row} (h : base.app y = some r) : r.len = base.len + y.len ∧ r.size = base.size ∧ y.size = base.size ∧ ∃ o : Bool, (o = true → r.cells = base.cells ++ y.cells) ∧ (o = false → r.cells = (base.cells ++ y.cells).map Cell.frz) := by
  cases base <;> cases y <;> simp only [Row.app] at h <;> try (cases h; done)
  · replace h := bif_some h
    obtain ⟨hk, h⟩ := h
    have := of_decide_eq_true hk
    subst this
    cases h
    exact ⟨by simp [Row.len], rfl, rfl, true, fun _ => by simp [Row.cells], fun h => by cases h⟩
  · cases h
    exact ⟨by simp [Row.len], rfl, rfl, true, fun _ => by simp [Row.cells], fun h => by cases h⟩
  · cases h
    exact ⟨by simp [Row.len], rfl, rfl, true, fun _ => by simp [Row.cells], fun h => by cases h⟩
  · rename_i o l o' l'
    cases h
    refine ⟨by simp [Row.len], rfl, rfl, o && o', fun hh => ?_, fun hh => ?_⟩
    · obtain ⟨rfl, rfl⟩ := and_bool hh; simp [Row.cells]
    · simp [Row.cells, Cell.frz, Function.comp_def, hh]
  · rename_i sg o l sg' o' l'
    replace h := bif_some h
    obtain ⟨hk, h⟩ := h
    have := eq_of_beq hk
    subst this
    cases h
    refine ⟨by simp [Row.len], rfl, rfl, o && o', fun hh => ?_, fun hh => ?_⟩
    · obtain ⟨rfl, rfl⟩ := and_bool hh; simp [Row.cells]
    · rw [hh]; simp [Row.cells, List.map_flatMap, recCells_frz]
theorem setCells_row {w : World} {b o : Nat} {arr : Array Value} {ty : TypeId} (hb : w.heap[b]? = some (.cells arr ty (0, 0))) {vs : List Value} (hone : ∀ v ∈ vs, v.oneCell' = true) (hfit : o + vs.length ≤ arr.size) (P : Program) : w.setCells b o vs = w.setRow b (arr.toList.take o ++ vs ++ arr.toList.drop (o + vs.length)).toArray := by
  have h1 := run_storeCells_at P b o ty vs 0 arr w hb (by simpa using hfit) hone
  have h2 := run_storeCells_cells (P := P) b o vs 0 w (fun j hj => by rw [cell?_plain hb]; simp; omega) (fun j hj => by simp [World.frozen?, hb]) hone
  simp only [Nat.add_zero] at h1 h2
  rw [h1] at h2
  injection h2 with _ h3
  exact h3.symm
structure BaseIs (C : Cx) (S : St) (w : World) (Fs : Nat → FP) (base : Row) (sv : Value) (kb : List Nat) : Prop where
  is : (sv = .slice none 0 0 ∧ base.len = 0) ∨ ∃ X cap arr ty Fb, sv = .slice (some ⟨X, 0, none⟩) base.len cap ∧ w.heap[X]? = some (.cells arr ty (0, 0)) ∧ base.len ≤ cap ∧ cap * base.size ≤ arr.size ∧ CellsRel w (C.ZL w (sumTo S.nx Fs)) base.cells arr.toList Fb ∧ ∀ b, Fb b + f1 X b ≤ sumL Fs kb b
theorem append_core (T : TOK P tt) (h : SRel C S a w ρ Fs) (hg : S.hp n = some .ghost) {t e tx ty : TypeId} {i : TypeInfo} {z : Value} (ht : P.underlying t = some (.slice e)) (hi : P.info? e = some i) (hz : i.zero = some z) (hzs : z.cells.size = i.size) (hpos : 0 < i.size) (hbp : 0 < i.bytes)
    {base y r : Row} (happ : base.app y = some r) (hbs : base.size = i.size) (hroom : (base.len + y.len) * i.bytes ≤ 140737488355328) {sv xv : Value} {news : List Value} {Fy : FP} (src : Src P y.size tx xv y.len news w) (hy : CellsRel w (C.ZL w (sumTo S.nx Fs)) y.cells news Fy) {ks kb : List Nat} (hFy : ∀ b, Fy b ≤ sumL Fs ks b) (took : Took S.hp (ks ++ kb)) (hb : BaseIs C S w Fs base sv kb) (e' : Nat) :
    ∃ w' q F' , (Builtin.append_ #[t, tx] ty #[sv, xv]).run P w = .ok (hdr q r.len) w' ∧ SRel C ⟨S.sl, upd S.hp (killUp (ks ++ kb) ++ [(n, some (.row e' 0 r))]), S.nx⟩ a w' (newρ ρ n q) (putF (kilF Fs (ks ++ kb)) n F') := by
  obtain ⟨a1, a2, a3, o, a4, a5⟩ := app_facts happ
  have hys : y.size = i.size := by omega
  rw [hys] at src
  have hk := took.lt h.mem (Sub.refl _)
  have hlive := took.live (Sub.refl _)
  have htot : ∀ b, sumL Fs ks b + sumL Fs kb b ≤ 1 := fun b => by
    have := sumL_le Fs b S.nx took.1 hk
    have := h.mem.one b
    rw [sumL_append] at *
    omega
  have hold : ∀ b, 1 ≤ sumL Fs (ks ++ kb) b → b < w.heap.size := fun b hb => (h.mem.mine b (Nat.le_trans hb (sumL_le Fs b S.nx took.1 hk))).1
  have hsmall : base.len + y.len ≤ 140737488355328 := Nat.le_trans (Nat.le_mul_of_pos_right _ hbp) hroom
  have hnl : news.length = y.len * i.size := src.newsLen
  have hgrow : ∀ (bs : Option Addr) (sc : Nat) (olds : List Value) (Fo : FP), sv = .slice bs base.len sc → sc < base.len + y.len → (Builtin.firstCells i.size base.len (.slice bs base.len sc)).run P w.drew = .ok olds.toArray w.drew → olds.length = base.len * i.size → CellsRel w (C.ZL w (sumTo S.nx Fs)) base.cells olds Fo → (∀ b, Fo b ≤ sumL Fs kb b) →
      ∃ w' q F' , (Builtin.append_ #[t, tx] ty #[sv, xv]).run P w = .ok (hdr q r.len) w' ∧ SRel C ⟨S.sl, upd S.hp (killUp (ks ++ kb) ++ [(n, some (.row e' 0 r))]), S.nx⟩ a w' (newρ ρ n q) (putF (kilF Fs (ks ++ kb)) n F') := by
    intro bs sc olds Fo hsv hsc hf holen hco hFo
    have hrun := run_append_grow_src (P := P) w t tx ty e i z ht hi hz bs base.len sc olds hf xv y.len news src hsc (by omega) (growslice_fits hsc hroom)
    have hge := grownCap_ge w (base.len + y.len) sc e
    have hjoin := CellsRel.append hco (by rw [holen, Row.cells_length, hbs]) hy
    have hF : ∀ b, fadd Fo Fy b ≤ sumL Fs (ks ++ kb) b := fun b => by
      have := hFo b; have := hFy b; rw [sumL_append]; simp; omega
    have hFX : fadd Fo Fy w.heap.size = 0 := by
      rcases Nat.eq_zero_or_pos (fadd Fo Fy w.heap.size) with h0 | h0
      · exact h0
      · have := hold _ (Nat.le_trans h0 (hF _)); omega
    obtain ⟨F', s1, s2, s3⟩ := cells_sealX (ks := ks ++ kb) (X := w.heap.size) hjoin hF hFX o (ct := r.cells) (cf := r.cells) a4 a5
    have hsz : ((olds ++ news).toArray ++ Builtin.zeroCells z.cells (grownCap w (base.len + y.len) sc e - (base.len + y.len))).size = grownCap w (base.len + y.len) sc e * i.size := by
      have e1 : (Builtin.zeroCells z.cells (grownCap w (base.len + y.len) sc e - (base.len + y.len))).size = (grownCap w (base.len + y.len) sc e - (base.len + y.len)) * i.size := by rw [← hzs]; simp [Builtin.zeroCells]
      rw [Array.size_append, e1, List.size_toArray, List.length_append, holen, hnl, ← Nat.add_mul, ← Nat.add_mul]
      congr 1
      omega
    refine ⟨_, some (w.heap.size, grownCap w (base.len + y.len) sc e), _, ?_, SRel.remake h hg (ks ++ kb) took.1 hlive w.heap.size (grownCap w (base.len + y.len) sc e) _ e e' r F' (w.drew.alloc (.cells ((olds ++ news).toArray ++ Builtin.zeroCells z.cells (grownCap w (base.len + y.len) sc e - (base.len + y.len))) e)) (.inl ⟨rfl, heap_push_size w.drew _⟩) (fun b hb _ => heap_push_lt w.drew _ hb) (heap_push_eq w.drew _) rfl rfl rfl ?_ s2 s3 (by rw [a1]; exact hge) (by rw [a2, hbs, hsz]; exact Nat.le_refl _)⟩
    · rw [hsv, hrun, a1]; rfl
    · have e2 : (if o = true then r.cells else r.cells) = r.cells := by cases o <;> rfl
      rw [e2] at s1
      rw [Array.toList_append]
      exact s1.more _
  rcases hb.is with ⟨hsv, hb0⟩ | ⟨X, cap, arr, bty, Fb, hsv, hX, hcap, hsize, hcb, hFb⟩
  · by_cases hn : y.len = 0
    · have hrun := run_append_nothing (P := P) w t tx ty e i ht hi none 0 0 (Nat.le_refl _) xv (by
        have := src
        rw [hn] at this
        have hnn : news = [] := List.eq_nil_of_length_eq_zero (by rw [hnl, hn, Nat.zero_mul])
        rw [hnn] at this
        exact this)
      refine ⟨w, none, fz, by rw [hsv, hrun]; rfl, SRel.remake_nil h hg (ks ++ kb) took.1 hlive e' r (by omega) w rfl rfl rfl rfl⟩
    · refine hgrow none 0 [] fz (by rw [hsv, hb0]) (by omega) (by rw [hb0]; exact run_firstCells_none ..) (by rw [hb0]; simp) (by rw [row_nil hb0]; rfl) (fun b => by simp)
  · have hcl : base.cells.length = base.len * i.size := by rw [Row.cells_length, hbs]
    have hlen : base.len * i.size ≤ arr.size := by
      rw [hbs] at hsize
      exact Nat.le_trans (Nat.mul_le_mul_right _ hcap) hsize
    have hol : (arr.toList.take (base.len * i.size)).length = base.len * i.size := by simp; omega
    have hco := hcb.shrink
    rw [hcl] at hco
    by_cases hr : base.len + y.len ≤ cap
    · have hfit : base.len * i.size + news.length ≤ arr.size := by
        rw [hnl, ← Nat.add_mul]
        rw [hbs] at hsize
        exact Nat.le_trans (Nat.mul_le_mul_right _ hr) hsize
      have hrun := run_append_room_src (P := P) w t tx ty e i ht hi X 0 base.len cap xv y.len news src hr (fun j hj => by rw [cell?_plain hX]; simp; omega) (fun j hj => by simp [World.frozen?, hX])
      rw [Nat.zero_add, setCells_row hX src.one hfit P] at hrun
      have hjoin := CellsRel.append hco (by rw [hol, hcl]) hy
      have hF : ∀ b, fadd Fb Fy b ≤ sumL Fs (ks ++ kb) b := fun b => by
        have := hFb b; have := hFy b; rw [sumL_append]; simp; omega
      have hkX : 1 ≤ sumL Fs kb X := by have := hFb X; simp at this; omega
      have hFX : fadd Fb Fy X = 0 := by
        have h1 := hFb X; have h2 := hFy X; have h3 := htot X
        simp at h1
        simp; omega
      obtain ⟨F', s1, s2, s3⟩ := cells_sealX (ks := ks ++ kb) (X := X) hjoin hF hFX o (ct := r.cells) (cf := r.cells) a4 a5
      refine ⟨_, some (X, cap), _, by rw [hsv, hrun, a1]; rfl, SRel.remake h hg (ks ++ kb) took.1 hlive X cap _ bty e' r F' (w.setRow X (arr.toList.take (base.len * i.size) ++ news ++ arr.toList.drop (base.len * i.size + news.length)).toArray) (.inr ⟨by rw [sumL_append]; omega, setRow_size ..⟩) (fun b _ hne => setRow_other w X _ hne) (setRow_heap w X arr _ bty _ hX) rfl rfl rfl ?_ s2 s3 (by omega) (by
        rw [a2, hbs, List.size_toArray]
        rw [hbs] at hsize
        simp only [List.length_append, List.length_take, List.length_drop, Array.length_toList]
        omega)⟩
      have e2 : (if o = true then r.cells else r.cells) = r.cells := by cases o <;> rfl
      rw [e2] at s1
      exact s1.more _
    · refine hgrow (some ⟨X, 0, none⟩) cap (arr.toList.take (base.len * i.size)) Fb hsv (by omega) (run_firstCells_some (P := P) w.drew i.size base.len ⟨X, 0, none⟩ base.len cap _ hol (fun j v hj => ?_)) hol hco (fun b => by have := hFb b; omega)
      have hj2 : j < base.len * i.size := by rw [← hol]; exact (List.getElem?_eq_some_iff.1 hj).1
      rw [plain_add, Nat.zero_add]
      have : w.drew.cell? ⟨X, j, none⟩ = w.cell? ⟨X, j, none⟩ := rfl
      rw [this, cell?_plain hX]
      rw [List.getElem?_take, if_pos hj2] at hj
      simpa using hj

theorem killUp_append (ks ks' : List Nat) : killUp (ks ++ ks') = killUp ks ++ killUp ks' := by simp [killUp]
theorem base_own (m : MRel C S.hp S.nx w ρ Fs) {id e ver : Nat} {r : Row} (hroot : S.hp id = some (.row e ver r)) {hi : Nat} (hhi : hi ≤ r.len) : BaseIs C S w Fs (r.take hi) (hdr (ρ id) hi) [id] := by
  rcases m.roots id _ hroot with ⟨g1, g2, g3⟩ | ⟨b, cap, arr, ty, F', g1, g2, g3, g4, g5, g6⟩
  · simp only [Cx.env] at g1
    exact ⟨.inl ⟨by rw [g1]; rfl, by rw [take_len]; omega⟩⟩
  · simp only [Cx.env] at g1 g2
    obtain ⟨F1, t1, t2⟩ := g5.take (hi * r.size)
    rw [← take_cells] at t1
    have hl : (r.take hi).len = hi := by rw [take_len]; omega
    refine ⟨.inr ⟨b, cap, arr, ty, F1, by rw [g1, hl]; rfl, g2, by omega, by rw [take_size]; exact g4, ?_, fun b' => ?_⟩⟩
    · have : arr.toList = arr.toList.take (hi * r.size) ++ arr.toList.drop (hi * r.size) := (List.take_append_drop ..).symm
      rw [this]
      exact t1.more _
    · have := t2 b'; simp only [sumL]; rw [g6]; simp; omega
theorem take_self (r : Row) : r.take r.len = r := by
  cases r <;> simp [Row.take, Row.len]
theorem run_append_op {o : Oper} {c : Call} {f : Tmp} {s x : Operand} {t tx : TypeId} (ho : o.op = .call c) (hc : c.callee = .builtin .append) (hargs : c.args.toList = [s, x]) (hts : c.argTypes.toList = [t, tx]) {v : Value} {w' : World} (hr : (Builtin.append_ #[t, tx] o.type #[a.eval s, a.eval x]).run P w = .ok v w') : (execOp a.eval o).run P w = .ok (.value v) w' := by
  have e1 : c.args = #[s, x] := by apply Array.ext'; simpa using hargs
  have e2 : c.argTypes = #[t, tx] := by apply Array.ext'; simpa using hts
  simp [execOp, ho, resolve, hc, e1, e2, invoke, builtin, hr, Result.andThen]
/-- A slice taken out of a row: a root of its own. -/
theorem SRel.takeOut (h : SRel C S a w ρ Fs) (hg : S.hp n = some .ghost) {id e ver i : Nat} {l : List (List Int)} (hroot : S.hp id = some (.row e ver (.rows true l))) (hi : i < l.length) {v : Value} (hv : cellAt w (ρ id) i = some v) (e' : Nat) :
    ∃ q Fs', SRel C ⟨S.sl, upd S.hp [(id, some (.hole e ver (.rows true l) i 0)), (n, some (.row e' 0 (.ints .i64 l[i])))], S.nx⟩ a w (newρ ρ n q) Fs' ∧ v = hdr q l[i].length := by
  have hne : id ≠ n := by rintro rfl; rw [hroot] at hg; cases hg
  have hidlt := live_lt h.mem hroot
  have hnlt := live_lt h.mem hg
  have hg0 : Fs n = fz := h.mem.roots n _ hg
  cases hρ : ρ id with
  | none => rw [hρ] at hv; cases hv
  | some q =>
    obtain ⟨b, cap⟩ := q
    rw [hρ] at hv
    obtain ⟨arr, ty, F, g1, g2, g3, g4, g5, g6⟩ := row_mem h.mem hroot hρ (by simp only [Row.len]; omega)
    simp only [cellAt] at hv
    rw [cell?_plain g1] at hv
    have hc : (Row.rows true l).cells[i]? = some (.sl true l[i]) := by simp [Row.cells, hi]
    obtain ⟨v', F1, F2, k1, k2, k3, k4⟩ := g4.get hc
    have hv' : arr.toList[i]? = some v := by simpa using hv
    rw [hv'] at k1; cases k1
    have hhole := k4 .free v fz rfl
    have hset : arr.toList.set i v = arr.toList := by
      apply List.ext_getElem?
      intro j
      rw [List.getElem?_set]
      by_cases e : i = j
      · subst e; rw [if_pos rfl, if_pos (List.getElem?_eq_some_iff.1 hv').1, hv']
      · rw [if_neg e]
    rw [hset, fz_fadd] at hhole
    have hat : ∀ j, upd S.hp [(id, some (.hole e ver (.rows true l) i 0)), (n, some (.row e' 0 (.ints .i64 l[i])))] j = if j = n then some (.row e' 0 (.ints .i64 l[i])) else if j = id then some (.hole e ver (.rows true l) i 0) else S.hp j := fun j => by
      rw [show [(id, some (Root.hole e ver (.rows true l) i 0)), (n, some (.row e' 0 (.ints .i64 l[i])))] = [(id, some (Root.hole e ver (.rows true l) i 0))] ++ [(n, some (.row e' 0 (.ints .i64 l[i])))] from rfl, upd_append, upd_one, upd_one]
    have hcase : ∃ q, v = hdr q l[i].length ∧ ∀ (E' : Env), E'.w = w → E'.ρ n = q → RootRel E' n (.row e' 0 (.ints .i64 l[i])) F1 := by
      rcases k2 with ⟨p1, p2, p3⟩ | ⟨b2, cap2, arr2, ty2, q1, q2, q3, q4, q5, q6⟩
      · refine ⟨none, by rw [p1, p2]; rfl, fun E' hw' hq => .inl ⟨hq, by rw [p2]; rfl, p3⟩⟩
      · refine ⟨some (b2, cap2), by rw [q1]; rfl, fun E' hw' hq => .inr ⟨b2, cap2, arr2, ty2, fz, hq, by rw [hw']; exact q2, by simpa [Row.len] using q3, by simpa [Row.size] using q4, ?_, by rw [fadd_fz]; exact q6⟩⟩
        refine CellsRel.ofFz fun j c hj => ?_
        simp only [Row.cells, List.getElem?_map] at hj
        cases hlj : l[i][j]? with
        | none => rw [hlj] at hj; cases hj
        | some z =>
          rw [hlj] at hj
          cases hj
          exact ⟨_, by simpa using q5 j z hlj, rfl, rfl⟩
    obtain ⟨q, hvq, hrr⟩ := hcase
    have hsum : ∀ b', sumTo S.nx (putF (putF Fs id (fadd (f1 b) F2)) n F1) b' = sumTo S.nx Fs b' := fun b' => by
      have e1 := sumTo_put (putF Fs id (fadd (f1 b) F2)) F1 b' hnlt
      have e2 := sumTo_put Fs (fadd (f1 b) F2) b' hidlt
      rw [putF_ne _ _ (Ne.symm hne), hg0] at e1
      rw [g5, k3] at e2
      simp at e1 e2
      omega
    refine ⟨q, putF (putF Fs id (fadd (f1 b) F2)) n F1, ?_, hvq⟩
    refine h.gen _ _ w _ _ (fun _ => False) (Nat.le_refl _) rfl rfl rfl (fun _ _ _ => rfl) (fun _ h => h.elim) (Nat.le_refl _) (fun j hj hre => newρ_ne _ _ (by rintro rfl; exact hre _ hg)) (fun j hj => ?_) (fun j hj => .inl ⟨by rw [hat, if_neg (by omega), if_neg (by omega)]; exact h.mem.fresh j hj, by rw [putF_ne _ _ (by omega), putF_ne _ _ (by omega)]; exact h.mem.dead j (h.mem.fresh j hj)⟩) (fun b' => by rw [hsum]; exact h.mem.one b') (fun b' hb' => .inl (by rw [hsum] at hb'; exact hb'))
    by_cases e1 : j = n
    · subst e1
      exact .turned .ghost _ hg (by rw [hat, if_pos rfl]) trivial (fun M => by rw [putF_self]; exact hrr _ rfl (newρ_self ..))
    · by_cases e2 : j = id
      · subst e2
        refine .turned _ (.hole e ver (.rows true l) i 0) hroot (by rw [hat, if_neg e1, if_pos rfl]) ⟨rfl, rfl, Nat.le_refl _⟩ (fun M => ?_)
        rw [putF_ne _ _ e1, putF_self]
        refine ⟨by simpa [Row.len] using hi, by simp [Row.size], .inr ⟨b, cap, arr, ty, F2, by show newρ ρ n q j = _; rw [newρ_ne _ _ e1]; exact hρ, g1, g2, g3, ?_, rfl⟩⟩
        simp only [Row.size, Nat.mul_one, Nat.add_zero]
        exact hhole.mono (fun b hb => M.zl b hb) (fun b _ => rfl)
      · exact .same (by rw [hat, if_neg e1, if_neg e2]) (by rw [putF_ne _ _ e1, putF_ne _ _ e2]) (fun _ _ h => h)
theorem added_congr {hp hp' : Nat → Option Root} {r0 : Row} {x : LV} {y : Row} {ks rc : List Nat} (he : added hp r0 x = some (y, ks, rc)) (hh : ∀ j ∈ rc, hp' j = hp j) : added hp' r0 x = some (y, ks, rc) := by
  cases x with
  | own id =>
    simp only [added] at he ⊢
    have : id ∈ rc := by
      split at he
      · split at he <;> cases he <;> simp
      · cases he
    rw [hh id this]; exact he
  | sub id lo hi =>
    simp only [added] at he ⊢
    have : id ∈ rc := by
      split at he
      · split at he <;> cases he; simp
      · cases he
    rw [hh id this]; exact he
  | inner id ver i f =>
    simp only [added, viewRow] at he ⊢
    have : id ∈ rc := by
      split at he
      · rename_i r rc' hq
        cases he
        split at hq
        · obtain ⟨_, hq⟩ := bif_some hq; cases hq; simp
        · obtain ⟨_, hq⟩ := bif_some hq; cases hq; simp
        · cases hq
      · cases he
    rw [hh id this]; exact he
  | _ => exact he

theorem added_live {hp : Nat → Option Root} {r0 : Row} {x : LV} {y : Row} {ks rc : List Nat} (he : added hp r0 x = some (y, ks, rc)) : ∀ j ∈ rc, ∃ e v r, hp j = some (.row e v r) := by
  cases x with
  | own id =>
    simp only [added] at he
    split at he
    · rename_i e v r hroot
      split at he <;> cases he <;> (intro j hj; simp at hj; subst hj; exact ⟨_, _, _, hroot⟩)
    · cases he
  | sub id lo hi =>
    simp only [added] at he
    split at he
    · rename_i e v r hroot
      split at he <;> cases he; (intro j hj; simp at hj; subst hj; exact ⟨_, _, _, hroot⟩)
    · cases he
  | inner id ver i f =>
    simp only [added, viewRow] at he
    split at he
    · rename_i r rc' hq
      cases he
      split at hq
      · rename_i hroot; obtain ⟨_, hq⟩ := bif_some hq; cases hq; intro j hj; simp at hj; subst hj; exact ⟨_, _, _, hroot⟩
      · rename_i hroot; obtain ⟨_, hq⟩ := bif_some hq; cases hq; intro j hj; simp at hj; subst hj; exact ⟨_, _, _, hroot⟩
      · cases hq
    · cases he
  | val p r => simp only [added, viewRow, Option.some.injEq, Prod.mk.injEq] at he; obtain ⟨_, _, rfl⟩ := he; simp
  | nil => simp only [added, Option.some.injEq, Prod.mk.injEq] at he; obtain ⟨_, _, rfl⟩ := he; simp
  | s x => simp only [added, Option.some.injEq, Prod.mk.injEq] at he; obtain ⟨_, _, rfl⟩ := he; simp
  | _ => simp [added, viewRow] at he
theorem tx_facts (T : TOK P tt) {r0 : Row} {x : LV} {tx : Nat} (h : (match x with | .s _ => (match tt tx with | some ⟨.str, _, _⟩ => r0.size == 1 | _ => false) | _ => (elemTy tt tx).isSome) = true) : ((∃ s, x = .s s) ∨ ∃ e', P.underlying tx = some (.slice e')) ∧ (∀ s, x = .s s → P.underlying tx = some .string) := by
  split at h
  · rename_i s
    refine ⟨.inl ⟨s, rfl⟩, fun _ _ => ?_⟩
    split at h
    · rename_i sz bs hq; exact (T tx _ hq).desc
    · cases h
  · rename_i hn
    obtain ⟨e', he⟩ := Option.isSome_iff_exists.1 h
    exact ⟨.inr ⟨e', slice_facts T he⟩, fun s hs => absurd hs (hn s)⟩
theorem evAppend_sound (T : TOK P tt) (h : SRel C S a w ρ Fs) {o : Oper} {c : Call} {t tx : Nat} {s x : Operand} (ho : o.op = .call c) (hc : c.callee = .builtin .append) (hargs : c.args.toList = [s, x]) (hts : c.argTypes.toList = [t, tx]) {E : Eff} (he : evAppend (R := Eff) tt S.hp n t tx (St.rd C.N S.sl s) (St.rd C.N S.sl x) some = some E) (hg : ∀ k, n ≤ k → k < E.nx → S.hp k = some .ghost) : ∃ w' ρ' Fs' u, Out P C S o E a w w' ρ' Fs' u := by
  unfold evAppend at he
  split at he
  · rename_i e sv xv hel hs hx
    split at he
    · rename_i r0 hr0
      split at he
      · rename_i y ks rc hadd
        replace he := bif_some he
        obtain ⟨htx, he⟩ := he
        obtain ⟨tx1, tx2⟩ := tx_facts T htx
        obtain ⟨te, q1, q2, q3, q4⟩ := emptyRow_size T hr0
        obtain ⟨i, z, z1, z2, z3, z4, z5, z6⟩ := zero_facts T q1 q3
        have hsl := slice_facts T hel
        have hzs : z.cells.size = i.size := by
          have := congrArg List.length z3
          simp only [Array.length_toList, List.length_map] at this
          omega
        have hbp : 0 < i.bytes := by rw [z5]; exact (T e te q1).some.2
        have hbb : bytesOf tt e = i.bytes := by simp [bytesOf, q1, z5]
        obtain ⟨news, Fy, y1, y2, y3, y4, y5⟩ := added_sound (P := P) h.mem hadd (emptyRow_len hr0) tx1 tx2 (rd_l h hx)
        -- the last step
        have fin : ∀ (base : Row) (kb : List Nat) (E : Eff), appFin (R := Eff) tt e r0 base y ks (killUp kb) n (rc ++ kb) some = some E → Took S.hp (ks ++ kb) → BaseIs C S w Fs base (a.eval s) kb → (∀ k, n ≤ k → k < E.nx → S.hp k = some .ghost) → ∃ w' ρ' Fs' u, Out P C S o E a w w' ρ' Fs' u := by
          intro base kb E he htook hbase hg
          unfold appFin at he
          split at he
          · rename_i r happ
            replace he := bif_some he
            obtain ⟨hbs, he⟩ := he
            have hbs := eq_of_beq hbs
            replace he := chk_some he
            obtain ⟨hrm, he⟩ := he
            have hrm := of_decide_eq_true hrm
            cases he
            have hgn := hg n (Nat.le_refl _) (Nat.lt_succ_self _)
            obtain ⟨w', q, F', k1, k2⟩ := append_core T h hgn hsl z1 z2 hzs (by omega) hbp happ (by omega) (by rw [← hbb]; exact hrm) y1 y2 (ty := o.type) y3 htook hbase e
            refine ⟨w', newρ ρ n q, putF (kilF Fs (ks ++ kb)) n F', hdr q r.len, .inl (run_append_op (f := 0) ho hc hargs hts k1), ?_, ?_⟩
            · rw [killUp_append] at k2; exact k2
            · refine ⟨live_lt h.mem hgn, fun root hr => ?_⟩
              simp only [Cx.env] at hr ⊢
              have : upd S.hp (killUp ks ++ killUp kb ++ [(n, some (.row e 0 r))]) n = some (.row e 0 r) := by rw [upd_append, upd_one, if_pos rfl]
              rw [this] at hr
              cases hr
              exact ⟨r, rfl, by rw [newρ_self]⟩
          · cases he
        have tookOwn : ∀ id e' ver r, S.hp id = some (.row e' ver r) → rc.elem id = false → Took S.hp (ks ++ [id]) := fun id e' ver r hroot hel => by
          refine ⟨List.nodup_append.2 ⟨y4.1, by simp, fun a ha b hb => ?_⟩, fun k hk => ?_⟩
          · simp at hb
            subst hb
            rintro rfl
            rw [List.elem_iff.2 (y5 a ha)] at hel; cases hel
          · rcases List.mem_append.1 hk with hk | hk
            · exact y4.2 k hk
            · simp at hk; subst hk; exact ⟨_, _, _, hroot⟩
        split at he
        · exact fin r0 [] E (by simpa [killUp] using he) (by simpa using y4) ⟨.inl ⟨rd_l h hs, emptyRow_len hr0⟩⟩ hg
        · rename_i id
          split at he
          · rename_i e' ver r hroot
            cases hel : rc.elem id with
            | true => rw [hel] at he; cases he
            | false =>
              rw [hel] at he
              simp only [cond_false] at he
              obtain ⟨_, hx2⟩ := rd_l h hs
              obtain ⟨r', e1, e2⟩ := hx2 _ hroot
              cases e1
              refine fin r [id] E (by simpa [killUp] using he) (tookOwn id _ _ _ hroot hel) ?_ hg
              have := base_own h.mem hroot (Nat.le_refl _)
              rw [take_self] at this
              rw [e2]
              exact this
          · cases he
        · rename_i id lo hi
          split at he
          · rename_i e' ver r hroot
            cases hel : rc.elem id with
            | true => rw [hel] at he; cases he
            | false =>
              rw [hel] at he
              simp only [cond_false] at he
              replace he := bif_some he
              obtain ⟨hlo, he⟩ := he
              have hlo := eq_of_beq hlo
              subst hlo
              obtain ⟨_, hx2⟩ := rd_l h hs
              obtain ⟨r', e1, _, l2, e2⟩ := hx2 _ hroot
              cases e1
              refine fin (r.take hi) [id] E (by simpa [killUp] using he) (tookOwn id _ _ _ hroot hel) ?_ hg
              have := base_own h.mem hroot l2
              rw [e2, hdr_sub]
              exact this
          · cases he
        · rename_i id ver i' f
          split at he
          · rename_i bt v l hroot
            cases helm : rc.elem id with
            | true => rw [helm] at he; cases he
            | false =>
              rw [helm] at he
              simp only [cond_false] at he
              replace he := bif_some he
              obtain ⟨hv, he⟩ := he
              have hv := eq_of_beq hv
              subst hv
              unfold appFin at he
              split at he
              · rename_i r happ
                replace he := bif_some he
                obtain ⟨hbs, he⟩ := he
                have hbs := eq_of_beq hbs
                replace he := chk_some he
                obtain ⟨hrm, he⟩ := he
                have hrm := of_decide_eq_true hrm
                cases he
                have hgn := hg n (Nat.le_refl _) (by simp only []; omega)
                have hgn1 := hg (n + 1) (Nat.le_succ _) (by simp only []; omega)
                obtain ⟨_, hx2⟩ := rd_l h hs
                obtain ⟨_, _, hx3⟩ := hx2 _ hroot
                obtain ⟨m1, m2, m4⟩ := hx3 bt _ rfl
                simp only [Row.slAt] at m1
                have hf0 := eq_of_beq m1
                subst hf0
                simp only [Row.len] at m2
                simp only [Row.size, Nat.mul_one, Nat.add_zero, Cx.env] at m4
                obtain ⟨q, Fs', h1, hvq⟩ := h.takeOut hgn hroot m2 m4 e
                have hne : id ≠ n := by rintro rfl; rw [hroot] at hgn; cases hgn
                have hne1 : id ≠ n + 1 := by rintro rfl; rw [hroot] at hgn1; cases hgn1
                have hat : ∀ j, upd S.hp [(id, some (.hole bt v (.rows true l) i' 0)), (n, some (.row e 0 (.ints .i64 l[i'])))] j = if j = n then some (.row e 0 (.ints .i64 l[i'])) else if j = id then some (.hole bt v (.rows true l) i' 0) else S.hp j := fun j => by
                  rw [show [(id, some (Root.hole bt v (.rows true l) i' 0)), (n, some (.row e 0 (.ints .i64 l[i'])))] = [(id, some (Root.hole bt v (.rows true l) i' 0))] ++ [(n, some (.row e 0 (.ints .i64 l[i'])))] from rfl, upd_append, upd_one, upd_one]
                have hrc : ∀ j ∈ rc, j ≠ id ∧ j ≠ n := fun j hj => by
                  refine ⟨?_, ?_⟩
                  · rintro rfl; rw [List.elem_iff.2 hj] at helm; cases helm
                  · rintro rfl
                    obtain ⟨_, _, _, hl⟩ := added_live hadd j hj
                    rw [hgn] at hl; cases hl
                have hadd1 := added_congr hadd (hp' := upd S.hp [(id, some (.hole bt v (.rows true l) i' 0)), (n, some (.row e 0 (.ints .i64 l[i'])))]) (fun j hj => by rw [hat, if_neg (hrc j hj).2, if_neg (hrc j hj).1])
                have hx1 : LVRel (C.env w (newρ ρ n q) (upd S.hp [(id, some (.hole bt v (.rows true l) i' 0)), (n, some (.row e 0 (.ints .i64 l[i'])))]) S.nx Fs') xv (a.eval x) := by
                  have := h1.rd x
                  rw [hx] at this
                  exact this
                obtain ⟨news1, Fy1, w1, w2, w3, w4, w5⟩ := added_sound (P := P) h1.mem hadd1 (emptyRow_len hr0) tx1 tx2 hx1
                have hroot1 : upd S.hp [(id, some (.hole bt v (.rows true l) i' 0)), (n, some (.row e 0 (.ints .i64 l[i'])))] n = some (.row e 0 (.ints .i64 l[i'])) := by rw [hat, if_pos rfl]
                have hgd : l.getD i' [] = l[i'] := by simp [m2]
                rw [hgd] at happ hbs hrm
                have took1 : Took (upd S.hp [(id, some (.hole bt v (.rows true l) i' 0)), (n, some (.row e 0 (.ints .i64 l[i'])))]) (ks ++ [n]) := by
                  refine ⟨List.nodup_append.2 ⟨w4.1, by simp, fun a ha b hb => ?_⟩, fun k hk => ?_⟩
                  · simp at hb
                    subst hb
                    exact (hrc a (w5 a ha)).2
                  · rcases List.mem_append.1 hk with hk | hk
                    · exact w4.2 k hk
                    · simp at hk; subst hk; exact ⟨_, _, _, hroot1⟩
                have hb1 := base_own h1.mem hroot1 (Nat.le_refl (Row.ints .i64 l[i']).len)
                rw [take_self, newρ_self] at hb1
                have hsv : a.eval s = hdr q (Row.ints .i64 l[i']).len := hvq
                rw [← hsv] at hb1
                have hg1 : upd S.hp [(id, some (.hole bt v (.rows true l) i' 0)), (n, some (.row e 0 (.ints .i64 l[i'])))] (n + 1) = some .ghost := by rw [hat, if_neg (by omega), if_neg (Ne.symm hne1)]; exact hgn1
                obtain ⟨w', q', F', k1, k2⟩ := append_core T h1 hg1 hsl z1 z2 hzs (by omega) hbp happ (by omega) (by rw [← hbb]; exact hrm) w1 w2 (ty := o.type) w3 took1 hb1 e
                have hfun : upd (upd S.hp [(id, some (.hole bt v (.rows true l) i' 0)), (n, some (.row e 0 (.ints .i64 l[i'])))]) (killUp (ks ++ [n]) ++ [(n + 1, some (.row e 0 r))]) = upd S.hp (killUp ks ++ [(id, some (.hole bt v (.rows true l) i' 0)), (n, none)] ++ [(n + 1, some (.row e 0 r))]) := by
                  funext j
                  rw [upd_append, upd_one, upd_kill, kill_at, hat, upd_append, upd_one, upd_append, show [(id, some (Root.hole bt v (.rows true l) i' 0)), (n, none)] = [(id, some (Root.hole bt v (.rows true l) i' 0))] ++ [(n, none)] from rfl, upd_append, upd_one, upd_one, upd_kill, kill_at]
                  by_cases j1 : j = n + 1
                  · simp [j1]
                  · by_cases j2 : j = n
                    · simp [j2]
                    · by_cases j3 : j = id
                      · subst j3
                        have : j ∉ ks := fun hh => (hrc j (w5 j hh)).1 rfl
                        simp [j1, j2, this]
                      · simp [j1, j2, j3]
                rw [hfun] at k2
                refine ⟨w', newρ (newρ ρ n q) (n + 1) q', putF (kilF Fs' (ks ++ [n])) (n + 1) F', hdr q' r.len, .inl (run_append_op (f := 0) ho hc hargs hts k1), k2, ?_⟩
                refine ⟨live_lt h.mem hgn1, fun root hr => ?_⟩
                simp only [Cx.env] at hr ⊢
                have : upd S.hp (killUp ks ++ [(id, some (.hole bt v (.rows true l) i' 0)), (n, none)] ++ [(n + 1, some (.row e 0 r))]) (n + 1) = some (.row e 0 r) := by rw [upd_append, upd_one, if_pos rfl]
                rw [this] at hr
                cases hr
                exact ⟨r, rfl, by rw [newρ_self]⟩
              · cases he
          · cases he
        · cases he
      · cases he
    · cases he
  · cases he
end
end Go.Proofs.Ytfkejiljabmaaaa.V
