/- How an abstract state stands for a frame and a memory, and what that survives. Conditions: none. -/
import Derived.Test.YtfkejiljabmaaaaVRel
set_option linter.unusedVariables false
namespace Go.Proofs.Ytfkejiljabmaaaa.V
open Go

def FrzAt (w : World) (Z : Zs) (ad : Addr) (cs : List Cell) : Prop := Z ad.block ∧ ∃ vs : List Value, (∀ j, j < cs.length → w.cell? (ad.add j) = vs[j]?) ∧ CellsRel w Z cs vs fz
def FrzRow (w : World) (Z : Zs) (r : Row) (v : Value) : Prop := ∃ A cap, v = .slice A r.len cap ∧ r.len ≤ cap ∧ (r.len ≠ 0 → ∃ ad, A = some ad ∧ FrzAt w Z ad r.cells)
/-- Where a root lies: its block, and the capacity of its slice; none: it is nil. -/
abbrev Place := Nat → Option (Nat × Nat)
def hdr (q : Option (Nat × Nat)) (n : Nat) : Value := match q with
  | none => .slice none 0 0
  | some (b, cap) => .slice (some ⟨b, 0, none⟩) n cap
def subHdr (q : Option (Nat × Nat)) (size lo hi : Nat) : Value := match q with
  | none => .slice none 0 0
  | some (b, cap) => .slice (some (if cap = lo then ⟨b, 0, none⟩ else ⟨b, lo * size, none⟩)) (hi - lo) (cap - lo)
theorem slAt_deep {r : Row} {f : Nat} (h : r.slAt f = true) : r.deep = true := by cases r <;> first | rfl | cases h
theorem slAt_lt {r : Row} {f : Nat} (h : r.slAt f = true) : f < r.size := by
  cases r with
  | rows o l => simp [Row.slAt] at h; subst h; simp [Row.size]
  | recs sg o l =>
    simp only [Row.slAt] at h
    cases e : sg[f]? with
    | none => rw [e] at h; cases h
    | some b => exact (List.getElem?_eq_some_iff.1 e).1
  | _ => cases h
def Root.row? : Root → Option Row
  | .row _ _ r => some r
  | .hole _ _ r _ _ => some r
  | .box _ _ => none
  | .ghost => none
def Root.ver : Root → Nat
  | .row _ v _ => v
  | .hole _ v _ _ _ => v
  | .box _ _ => 0
  | .ghost => 0
def Root.real : Root → Prop
  | .ghost => False
  | _ => True
def cellAt (w : World) (q : Option (Nat × Nat)) (j : Nat) : Option Value := match q with
  | none => none
  | some (b, _) => w.cell? ⟨b, j, none⟩
structure Env where
  w : World
  Zf : Zs
  ZL : Zs
  ρ : Place
  hp : Nat → Option Root
  nx : Nat
def LVRel (E : Env) : LV → Value → Prop
  | .any, _ => True
  | .undef, v => v = undef
  | .i k n, v => v = .int k n
  | .b x, v => v = .bool x
  | .s x, v => v = .string x
  | .er true, v => v = .nilIface
  | .er false, v => ∃ t x, v = .iface t x
  | .fn f, v => v = .func (.func f) #[] #[]
  | .nil, v => v = .slice none 0 0
  | .val p r, v => FrzRow E.w (if p then E.Zf else E.ZL) r v
  | .own id, v => id < E.nx ∧ ∀ root, E.hp id = some root → ∃ r, root.row? = some r ∧ v = hdr (E.ρ id) r.len
  | .sub id lo hi, v => id < E.nx ∧ ∀ root, E.hp id = some root → ∃ r, root.row? = some r ∧ lo ≤ hi ∧ hi ≤ r.len ∧ v = subHdr (E.ρ id) r.size lo hi
  | .inner id ver i f, v => id < E.nx ∧ ∀ root, E.hp id = some root → root.real ∧ ver ≤ root.ver ∧ ∀ e r, root = .row e ver r → r.slAt f = true ∧ i < r.len ∧ cellAt E.w (E.ρ id) (i * r.size + f) = some v
  | .bptr id k, v => id < E.nx ∧ (∀ root, E.hp id = some root → root.real) ∧ ∃ b cap, E.ρ id = some (b, cap) ∧ v = .pointer (some ⟨b, k, none⟩)
  | .arr id n, v => id < E.nx ∧ ∀ root, E.hp id = some root → ∃ r, root.row? = some r ∧ r.len = n ∧ ∃ b cap, E.ρ id = some (b, cap) ∧ v = .pointer (some ⟨b, 0, none⟩)
  | .eptr id i f, v => id < E.nx ∧ ∀ root, E.hp id = some root → ∃ r, root.row? = some r ∧ i < r.len ∧ ∃ b cap, E.ρ id = some (b, cap) ∧ v = .pointer (some ⟨b, i * r.size + f, none⟩)
  | .vptr p r i f, v => i < r.len ∧ ∃ ad, v = .pointer (some (ad.add (i * r.size + f))) ∧ FrzAt E.w (if p then E.Zf else E.ZL) ad r.cells
  | .iptr id ver i f j, v => id < E.nx ∧ ∀ root, E.hp id = some root → root.real ∧ ver ≤ root.ver ∧ ∀ e r, root = .row e ver r → r.slAt f = true ∧ i < r.len ∧ j < (innerOf r i f).length ∧ ∃ A n cap, cellAt E.w (E.ρ id) (i * r.size + f) = some (.slice (some A) n cap) ∧ v = .pointer (some (A.add j))
def LVsRel (E : Env) : List LV → List Value → Prop
  | [], [] => True
  | x :: xs, v :: vs => LVRel E x v ∧ LVsRel E xs vs
  | _, _ => False
def A1Rel (E : Env) : A1 → Value → Prop
  | .l x, v => LVRel E x v
  | .agg xs, v => ∃ vs : List Value, v = .agg vs.toArray ∧ LVsRel E xs vs
def A1sRel (E : Env) : List A1 → List Value → Prop
  | [], [] => True
  | x :: xs, v :: vs => A1Rel E x v ∧ A1sRel E xs vs
  | _, _ => False
def AVRel (E : Env) : AV → Value → Prop
  | .one x, v => A1Rel E x v
  | .tup xs, v => ∃ vs : List Value, v = .tuple vs.toArray ∧ A1sRel E xs vs
def RowRel (w : World) (Z : Zs) (q : Option (Nat × Nat)) (cs : List Cell) (len size : Nat) (F : FP) : Prop :=
  (q = none ∧ len = 0 ∧ F = fz) ∨ ∃ b cap arr ty F', q = some (b, cap) ∧ w.heap[b]? = some (.cells arr ty (0, 0)) ∧ len ≤ cap ∧ cap * size ≤ arr.size ∧ CellsRel w Z cs arr.toList F' ∧ F = fadd (f1 b) F'
def BoxRel (E : Env) (q : Option (Nat × Nat)) (cells : List LV) (F : FP) : Prop :=
  ∃ b cap vs ty, q = some (b, cap) ∧ E.w.heap[b]? = some (.cells vs ty (0, 0)) ∧ LVsRel E cells vs.toList ∧ F = f1 b
def RootRel (E : Env) (id : Nat) : Root → FP → Prop
  | .row _ _ r, F => RowRel E.w E.ZL (E.ρ id) r.cells r.len r.size F
  | .hole _ _ r i f, F => i < r.len ∧ f < r.size ∧ RowRel E.w E.ZL (E.ρ id) (r.cells.set (i * r.size + f) .free) r.len r.size F
  | .box _ cells, F => BoxRel E (E.ρ id) cells F
  | .ghost, F => F = fz

/-! ### What changes leave alone -/
def Like (w w' : World) (q : Option (Nat × Nat)) : Root → Root → Prop
  | .box _ _, .box _ _ => True
  | .row _ v r, .row _ v' r' => r'.len = r.len ∧ r'.size = r.size ∧ v ≤ v' ∧ (∀ f, r'.slAt f = r.slAt f) ∧ (v' = v → r.deep = true → (∀ i f, (innerOf r' i f).length = (innerOf r i f).length) ∧ ∀ b cap, q = some (b, cap) → w'.heap[b]? = w.heap[b]?)
  | .row _ v r, .hole _ v' r' _ _ => r'.len = r.len ∧ r'.size = r.size ∧ v ≤ v'
  | .hole _ v r _ _, .row _ v' r' => r'.len = r.len ∧ r'.size = r.size ∧ v < v'
  | .ghost, _ => True
  | _, _ => False
theorem Like.refl (w w' : World) (q : Option (Nat × Nat)) : ∀ root : Root, (∀ b cap, q = some (b, cap) → root.row?.any Row.deep = true → w'.heap[b]? = w.heap[b]?) → (∀ e v r i f, root ≠ .hole e v r i f) → Like w w' q root root
  | .box _ _, _, _ => trivial
  | .ghost, _, _ => trivial
  | .row _ v r, h, _ => ⟨rfl, rfl, Nat.le_refl _, fun _ => rfl, fun _ hd => ⟨fun _ _ => rfl, fun b cap hq => h b cap hq (by simp [Root.row?, hd])⟩⟩
  | .hole e v r i f, _, h => absurd rfl (h e v r i f)
/-- From one state of things to the next. -/
structure Mono (E E' : Env) : Prop where
  zf : ∀ b, E.Zf b → E'.Zf b ∧ E'.w.heap[b]? = E.w.heap[b]?
  zl : ∀ b, E.ZL b → E'.ZL b ∧ E'.w.heap[b]? = E.w.heap[b]?
  nx : E.nx ≤ E'.nx
  ρ : ∀ id, id < E.nx → (∀ root, E.hp id = some root → root.real) → E'.ρ id = E.ρ id
  like : ∀ id root', id < E.nx → E'.hp id = some root' → ∃ root, E.hp id = some root ∧ (Like E.w E'.w (E.ρ id) root root' ∨ root' = root ∧ ∃ e v r i f, root = .hole e v r i f)

theorem FrzAt.mono {w w' : World} {Z Z' : Zs} {ad : Addr} {cs : List Cell} (h : FrzAt w Z ad cs) (hz : ∀ b, Z b → Z' b ∧ w'.heap[b]? = w.heap[b]?) : FrzAt w' Z' ad cs := by
  obtain ⟨h0, vs, h1, h2⟩ := h
  refine ⟨(hz _ h0).1, vs, fun j hj => ?_, h2.mono hz (fun b hb => by simp at hb)⟩
  rw [← h1 j hj]
  exact cell?_of_heap (by rw [add_block]; exact (hz _ h0).2)
theorem FrzRow.mono {w w' : World} {Z Z' : Zs} {r : Row} {v : Value} (h : FrzRow w Z r v) (hz : ∀ b, Z b → Z' b ∧ w'.heap[b]? = w.heap[b]?) : FrzRow w' Z' r v := by
  obtain ⟨A, cap, hv, hlc, h1⟩ := h
  refine ⟨A, cap, hv, hlc, fun hn => ?_⟩
  obtain ⟨ad, e, h2⟩ := h1 hn
  exact ⟨ad, e, h2.mono hz⟩
theorem Mono.row {E E' : Env} (M : Mono E E') {id : Nat} (h : id < E.nx) {root' : Root} (h' : E'.hp id = some root') : ∃ root, E.hp id = some root ∧ (root.real → root'.real ∧ root.ver ≤ root'.ver ∧ (∀ r, root.row? = some r → ∃ r', root'.row? = some r' ∧ r'.len = r.len ∧ r'.size = r.size) ∧
    ∀ e r', root' = .row e root.ver r' → ∃ e0 r, root = .row e0 root.ver r ∧ (∀ f, r'.slAt f = r.slAt f) ∧ (r.deep = true → (∀ i f, (innerOf r' i f).length = (innerOf r i f).length) ∧ ∀ b cap, E.ρ id = some (b, cap) → E'.w.heap[b]? = E.w.heap[b]?)) := by
  obtain ⟨root, h0, hl⟩ := M.like id root' h h'
  refine ⟨root, h0, fun hreal => ?_⟩
  rcases hl with hl | ⟨rfl, e, v, r, i, f, rfl⟩
  · cases root <;> cases root' <;> simp only [Like, Root.real] at hl hreal
    · obtain ⟨h1, h2, h3, h5, h4⟩ := hl
      refine ⟨trivial, h3, fun r hr => ⟨_, rfl, by simp [Root.row?] at hr; subst hr; exact ⟨h1, h2⟩⟩, fun e r' he => ?_⟩
      simp only [Root.row.injEq] at he
      obtain ⟨rfl, hv, rfl⟩ := he
      exact ⟨_, _, rfl, h5, fun hd => h4 hv hd⟩
    · exact ⟨trivial, hl.2.2, fun r hr => ⟨_, rfl, by simp [Root.row?] at hr; subst hr; exact ⟨hl.1, hl.2.1⟩⟩, fun e r' he => by cases he⟩
    · refine ⟨trivial, Nat.le_of_lt hl.2.2, fun r hr => ⟨_, rfl, by simp [Root.row?] at hr; subst hr; exact ⟨hl.1, hl.2.1⟩⟩, fun e r' he => ?_⟩
      simp only [Root.row.injEq] at he
      have h1 := hl.2.2
      have h2 := he.2.1
      simp only [Root.ver] at h2
      omega
    · exact ⟨trivial, Nat.le_refl _, fun r hr => by simp [Root.row?] at hr, fun e r' he => by cases he⟩
  · exact ⟨hreal, Nat.le_refl _, fun r hr => ⟨r, hr, rfl, rfl⟩, fun e r' he => by cases he⟩
theorem real_of_row {root : Root} {r : Row} (h : root.row? = some r) : root.real := by cases root <;> first | trivial | cases h

theorem cellAt_mono {w w' : World} {q : Option (Nat × Nat)} {j : Nat} {v : Value} (h : cellAt w q j = some v) (hb : ∀ b cap, q = some (b, cap) → w'.heap[b]? = w.heap[b]?) : cellAt w' q j = some v := by
  cases q with
  | none => exact h
  | some q => obtain ⟨b, cap⟩ := q; simp only [cellAt] at h ⊢; rw [cell?_of_heap (w := w) (hb b cap rfl)]; exact h
theorem LVRel.mono {E E' : Env} (M : Mono E E') {x : LV} {v : Value} (h : LVRel E x v) : LVRel E' x v := by
  match x, h with
  | .any, h => exact h
  | .undef, h => exact h
  | .i _ _, h => exact h
  | .b _, h => exact h
  | .s _, h => exact h
  | .er true, h => exact h
  | .er false, h => exact h
  | .fn _, h => exact h
  | .nil, h => exact h
  | .val p r, h => cases p <;> exact FrzRow.mono h (by first | exact M.zf | exact M.zl)
  | .own id, ⟨h1, h2⟩ =>
    refine ⟨Nat.lt_of_lt_of_le h1 M.nx, fun root' h' => ?_⟩
    obtain ⟨root, h0, hg⟩ := M.row h1 h'
    obtain ⟨r, e, hv⟩ := h2 root h0
    obtain ⟨_, _, hr, _⟩ := hg (real_of_row e)
    obtain ⟨r', e', hl, hs⟩ := hr r e
    exact ⟨r', e', by rw [M.ρ id h1 (fun x hx => by rw [h0] at hx; cases hx; exact real_of_row e), hl]; exact hv⟩
  | .sub id lo hi, ⟨h1, h2⟩ =>
    refine ⟨Nat.lt_of_lt_of_le h1 M.nx, fun root' h' => ?_⟩
    obtain ⟨root, h0, hg⟩ := M.row h1 h'
    obtain ⟨r, e, g1, g2, hv⟩ := h2 root h0
    obtain ⟨_, _, hr, _⟩ := hg (real_of_row e)
    obtain ⟨r', e', hl, hs⟩ := hr r e
    exact ⟨r', e', g1, by omega, by rw [M.ρ id h1 (fun x hx => by rw [h0] at hx; cases hx; exact real_of_row e), hs]; exact hv⟩
  | .inner id ver i f, ⟨h1, h2⟩ =>
    refine ⟨Nat.lt_of_lt_of_le h1 M.nx, fun root' h' => ?_⟩
    obtain ⟨root, h0, hg⟩ := M.row h1 h'
    obtain ⟨g0, g1, g2⟩ := h2 root h0
    obtain ⟨hre, hv, hr, hd⟩ := hg g0
    refine ⟨hre, Nat.le_trans g1 hv, fun e r' he => ?_⟩
    have hver : root.ver = ver := by have : root'.ver = ver := by rw [he]; rfl
                                     omega
    subst hver
    obtain ⟨e0, r, hroot, hdd, hk⟩ := hd e r' he
    obtain ⟨m1, m2, m4⟩ := g2 e0 r hroot
    obtain ⟨k2, k3⟩ := hk (slAt_deep m1)
    obtain ⟨r'', q1, q2, q3⟩ := hr r (by rw [hroot]; rfl)
    have e2 : r'' = r' := by rw [he] at q1; exact (Option.some.inj q1).symm
    rw [e2] at q2 q3
    refine ⟨by rw [hdd]; exact m1, by omega, ?_⟩
    rw [M.ρ id h1 (fun x hx => by rw [h0] at hx; cases hx; exact g0), q3]
    exact cellAt_mono m4 k3
  | .bptr id k, ⟨h1, hre, b, cap, h2, h3⟩ =>
    refine ⟨Nat.lt_of_lt_of_le h1 M.nx, fun root' h' => ?_, b, cap, by rw [M.ρ id h1 hre]; exact h2, h3⟩
    obtain ⟨root, h0, hg⟩ := M.row h1 h'
    exact (hg (hre root h0)).1
  | .arr id n, ⟨h1, h2⟩ =>
    refine ⟨Nat.lt_of_lt_of_le h1 M.nx, fun root' h' => ?_⟩
    obtain ⟨root, h0, hg⟩ := M.row h1 h'
    obtain ⟨r, e, g1, b, cap, g2, hv⟩ := h2 root h0
    obtain ⟨_, _, hr, _⟩ := hg (real_of_row e)
    obtain ⟨r', e', hl, hs⟩ := hr r e
    exact ⟨r', e', by omega, b, cap, by rw [M.ρ id h1 (fun x hx => by rw [h0] at hx; cases hx; exact real_of_row e)]; exact g2, hv⟩
  | .eptr id i f, ⟨h1, h2⟩ =>
    refine ⟨Nat.lt_of_lt_of_le h1 M.nx, fun root' h' => ?_⟩
    obtain ⟨root, h0, hg⟩ := M.row h1 h'
    obtain ⟨r, e, g1, b, cap, g2, hv⟩ := h2 root h0
    obtain ⟨_, _, hr, _⟩ := hg (real_of_row e)
    obtain ⟨r', e', hl, hs⟩ := hr r e
    exact ⟨r', e', by omega, b, cap, by rw [M.ρ id h1 (fun x hx => by rw [h0] at hx; cases hx; exact real_of_row e)]; exact g2, by rw [hs]; exact hv⟩
  | .vptr p r i f, ⟨h1, ad, h2, h3⟩ => exact ⟨h1, ad, h2, by cases p <;> exact h3.mono (by first | exact M.zf | exact M.zl)⟩
  | .iptr id ver i f j, ⟨h1, h2⟩ =>
    refine ⟨Nat.lt_of_lt_of_le h1 M.nx, fun root' h' => ?_⟩
    obtain ⟨root, h0, hg⟩ := M.row h1 h'
    obtain ⟨g0, g1, g2⟩ := h2 root h0
    obtain ⟨hre, hv, hr, hd⟩ := hg g0
    refine ⟨hre, Nat.le_trans g1 hv, fun e r' he => ?_⟩
    have hver : root.ver = ver := by have : root'.ver = ver := by rw [he]; rfl
                                     omega
    subst hver
    obtain ⟨e0, r, hroot, hdd, hk⟩ := hd e r' he
    obtain ⟨m1, m2, m5, A, n, cap, m4, m6⟩ := g2 e0 r hroot
    obtain ⟨k2, k3⟩ := hk (slAt_deep m1)
    obtain ⟨r'', q1, q2, q3⟩ := hr r (by rw [hroot]; rfl)
    have e2 : r'' = r' := by rw [he] at q1; exact (Option.some.inj q1).symm
    rw [e2] at q2 q3
    refine ⟨by rw [hdd]; exact m1, by omega, by rw [k2]; exact m5, A, n, cap, ?_, m6⟩
    rw [M.ρ id h1 (fun x hx => by rw [h0] at hx; cases hx; exact g0), q3]
    exact cellAt_mono m4 k3
theorem LVsRel.mono {E E' : Env} (M : Mono E E') : ∀ {xs : List LV} {vs : List Value}, LVsRel E xs vs → LVsRel E' xs vs
  | [], [], h => h
  | x :: xs, v :: vs, h => ⟨h.1.mono M, LVsRel.mono M h.2⟩
theorem A1Rel.mono {E E' : Env} (M : Mono E E') {x : A1} {v : Value} (h : A1Rel E x v) : A1Rel E' x v := by
  cases x with
  | l x => exact LVRel.mono M h
  | agg xs => obtain ⟨vs, e, h⟩ := h; exact ⟨vs, e, h.mono M⟩
theorem A1sRel.mono {E E' : Env} (M : Mono E E') : ∀ {xs : List A1} {vs : List Value}, A1sRel E xs vs → A1sRel E' xs vs
  | [], [], h => h
  | x :: xs, v :: vs, h => ⟨h.1.mono M, A1sRel.mono M h.2⟩
theorem AVRel.mono {E E' : Env} (M : Mono E E') {x : AV} {v : Value} (h : AVRel E x v) : AVRel E' x v := by
  cases x with
  | one x => exact A1Rel.mono M h
  | tup xs => obtain ⟨vs, e, h⟩ := h; exact ⟨vs, e, h.mono M⟩
theorem RowRel.mono {w w' : World} {Z Z' : Zs} {q : Option (Nat × Nat)} {cs : List Cell} {len size : Nat} {F : FP} (h : RowRel w Z q cs len size F) (hz : ∀ b, Z b → Z' b ∧ w'.heap[b]? = w.heap[b]?) (hf : ∀ b, 1 ≤ F b → w'.heap[b]? = w.heap[b]?) : RowRel w' Z' q cs len size F := by
  rcases h with h | ⟨b, cap, arr, ty, F', h1, h2, h3, h4, h5, h6⟩
  · exact .inl h
  · exact .inr ⟨b, cap, arr, ty, F', h1, by rw [hf b (by rw [h6]; simp)]; exact h2, h3, h4, h5.mono hz (fun b hb => hf b (by rw [h6]; simp; omega)), h6⟩
theorem BoxRel.mono {E E' : Env} (M : Mono E E') {q : Option (Nat × Nat)} {cells : List LV} {F : FP} (h : BoxRel E q cells F) (hf : ∀ b, 1 ≤ F b → E'.w.heap[b]? = E.w.heap[b]?) : BoxRel E' q cells F := by
  obtain ⟨b, cap, vs, ty, h1, h2, h3, h4⟩ := h
  exact ⟨b, cap, vs, ty, h1, by rw [hf b (by rw [h4]; simp)]; exact h2, h3.mono M, h4⟩
theorem RootRel.mono {E E' : Env} (M : Mono E E') {id : Nat} (hid : id < E.nx) {root : Root} {F : FP} (hhp : E.hp id = some root) (h : RootRel E id root F) (hf : ∀ b, 1 ≤ F b → E'.w.heap[b]? = E.w.heap[b]?) : RootRel E' id root F := by
  by_cases hg : root = .ghost
  · subst hg; exact h
  have hre : ∀ x, E.hp id = some x → x.real := fun x hx => by rw [hhp] at hx; cases hx; cases root <;> first | trivial | exact absurd rfl hg
  cases root with
  | row e v r => simp only [RootRel, M.ρ id hid hre] at h ⊢; exact h.mono M.zl hf
  | hole e v r i f => simp only [RootRel, M.ρ id hid hre] at h ⊢; exact ⟨h.1, h.2.1, h.2.2.mono M.zl hf⟩
  | box t c => simp only [RootRel, M.ρ id hid hre] at h ⊢; exact h.mono M hf
  | ghost => exact h
end Go.Proofs.Ytfkejiljabmaaaa.V
