/- What goes into a call and comes out of it, free of names; how it gets names. Conditions: none. -/
import Derived.Test.YtfkejiljabmaaaaVOpP
set_option linter.unusedVariables false
set_option linter.unusedSimpArgs false
namespace Go.Proofs.Ytfkejiljabmaaaa.V
open Go

/-! ### Values across calls -/
def DLRel (w : World) (Zf ZL : Zs) : DL → Value → FP → Prop
  | .i k n, v, F => v = .int k n ∧ F = fz
  | .b x, v, F => v = .bool x ∧ F = fz
  | .s x, v, F => v = .string x ∧ F = fz
  | .er true, v, F => v = .nilIface ∧ F = fz
  | .er false, v, F => (∃ t x, v = .iface t x) ∧ F = fz
  | .sl .frz r, v, F => FrzRow w Zf r v ∧ F = fz
  | .sl .lent r, v, F => FrzRow w ZL r v ∧ F = fz
  | .sl .own r, v, F => ∃ q, v = hdr q r.len ∧ RowRel w ZL q r.cells r.len r.size F
def DLsRel (w : World) (Zf ZL : Zs) : List DL → List Value → FP → Prop
  | [], [], F => F = fz
  | d :: ds, v :: vs, F => ∃ F1 F2, DLRel w Zf ZL d v F1 ∧ DLsRel w Zf ZL ds vs F2 ∧ F = fadd F1 F2
  | _, _, _ => False
def DVRel (w : World) (Zf ZL : Zs) : DV → Value → FP → Prop
  | .l d, v, F => DLRel w Zf ZL d v F
  | .agg ds, v, F => ∃ vs : List Value, v = .agg vs.toArray ∧ DLsRel w Zf ZL ds vs F
  | .ptr ds, v, F => ∃ b vs ty F', v = .pointer (some ⟨b, 0, none⟩) ∧ w.heap[b]? = some (.cells vs ty (0, 0)) ∧ DLsRel w Zf ZL ds vs.toList F' ∧ F = fadd (f1 b) F'
def DVsRel (w : World) (Zf ZL : Zs) : List DV → List Value → FP → Prop
  | [], [], F => F = fz
  | d :: ds, v :: vs, F => ∃ F1 F2, DVRel w Zf ZL d v F1 ∧ DVsRel w Zf ZL ds vs F2 ∧ F = fadd F1 F2
  | _, _, _ => False

/-! ### Names -/
theorem upd_out (hp : Nat → Option Root) : ∀ (up : List (Nat × Option Root)) {j : Nat}, (∀ p ∈ up, p.1 ≠ j) → upd hp up j = hp j := by
  intro up
  induction up generalizing hp with
  | nil => intro j _; rfl
  | cons p up ih =>
    intro j h
    obtain ⟨i, r⟩ := p
    rw [upd, ih _ (fun q hq => h q (by simp [hq]))]
    have : (j == i) = false := by have := h (i, r) (by simp); simpa using Ne.symm this
    simp [this]
theorem upd_base : ∀ (up : List (Nat × Option Root)) {hp hp' : Nat → Option Root} {j : Nat}, hp j = hp' j → upd hp up j = upd hp' up j := by
  intro up
  induction up with
  | nil => intro hp hp' j h; exact h
  | cons p up ih =>
    intro hp hp' j h
    obtain ⟨i, r⟩ := p
    simp only [upd]
    refine ih ?_
    cases j == i
    · exact h
    · rfl
def nohp : Nat → Option Root := fun _ => none
structure Ext (w : World) (Zf ZL : Zs) (n n' : Nat) (up : List (Nat × Option Root)) (ρ1 : Place) (E : Env) : Prop where
  w : E.w = w
  zf : ∀ b, Zf b → E.Zf b
  zl : ∀ b, ZL b → E.ZL b
  ρ : ∀ j, n ≤ j → j < n' → E.ρ j = ρ1 j
  hp : ∀ j, n ≤ j → j < n' → E.hp j = upd nohp up j
  nx : n' ≤ E.nx
/-- New roots that hold what came. -/
structure Frag (w : World) (Zf ZL : Zs) (n n' : Nat) (up : List (Nat × Option Root)) (F : FP) (ρ1 : Place) (Fs1 : Nat → FP) : Prop where
  le : n ≤ n'
  out : ∀ j, j < n ∨ n' ≤ j → Fs1 j = fz
  sum : ∀ b, sumTo n' Fs1 b = F b
  keys : ∀ p ∈ up, n ≤ p.1 ∧ p.1 < n'
  dead : ∀ j, upd nohp up j = none → Fs1 j = fz
  roots : ∀ E, Ext w Zf ZL n n' up ρ1 E → ∀ j root, upd nohp up j = some root → RootRel E j root (Fs1 j)
section
variable {w : World} {Zf ZL : Zs}
theorem sumTo_fz (n : Nat) (b : Nat) (Fs : Nat → FP) (h : ∀ j, j < n → Fs j = fz) : sumTo n Fs b = 0 := by
  have : sumTo n Fs b = sumTo n (fun _ => fz) b := sumTo_congr b (fun j hj => by rw [h j hj])
  rw [this]
  induction n with
  | zero => rfl
  | succ n ih => simp [sumTo, ih (fun j hj => h j (by omega)) (sumTo_congr b fun j hj => by rw [h j (by omega)])]
theorem sumTo_add (n : Nat) (b : Nat) (Fs Gs : Nat → FP) : sumTo n (fun j => fadd (Fs j) (Gs j)) b = sumTo n Fs b + sumTo n Gs b := by
  induction n with
  | zero => rfl
  | succ n ih => simp [sumTo, ih]; omega
theorem Frag.nil (n : Nat) (ρ1 : Place) : Frag w Zf ZL n n [] fz ρ1 (fun _ => fz) :=
  ⟨Nat.le_refl _, fun _ _ => rfl, fun b => sumTo_fz n b _ (fun _ _ => rfl), by simp, fun _ _ => rfl, fun E h j root hj => by simp [upd, nohp] at hj⟩
theorem Frag.join {n m n' : Nat} {up up' : List (Nat × Option Root)} {F F' : FP} {ρ1 ρ2 : Place} {Fs1 Fs2 : Nat → FP} (h : Frag w Zf ZL n m up F ρ1 Fs1) (h' : Frag w Zf ZL m n' up' F' ρ2 Fs2) :
    Frag w Zf ZL n n' (up ++ up') (fadd F F') (fun j => if j < m then ρ1 j else ρ2 j) (fun j => fadd (Fs1 j) (Fs2 j)) ∧
    (∀ E, Ext w Zf ZL n n' (up ++ up') (fun j => if j < m then ρ1 j else ρ2 j) E → Ext w Zf ZL n m up ρ1 E ∧ Ext w Zf ZL m n' up' ρ2 E) := by
  have hlo : ∀ j, j < m → upd nohp (up ++ up') j = upd nohp up j := fun j hj => by
    rw [upd_append]
    exact upd_out _ _ (fun p hp e => by have := (h'.keys p hp).1; omega)
  have hhi : ∀ j, m ≤ j → upd nohp (up ++ up') j = upd nohp up' j := fun j hj => by
    rw [upd_append]
    refine upd_base _ ?_
    exact upd_out _ _ (fun p hp e => by have := (h.keys p hp).2; omega)
  have hext : ∀ E, Ext w Zf ZL n n' (up ++ up') (fun j => if j < m then ρ1 j else ρ2 j) E → Ext w Zf ZL n m up ρ1 E ∧ Ext w Zf ZL m n' up' ρ2 E := fun E e => by
    have l1 := h.le
    have l2 := h'.le
    refine ⟨⟨e.w, e.zf, e.zl, fun j a b => ?_, fun j a b => ?_, by have := e.nx; omega⟩, ⟨e.w, e.zf, e.zl, fun j a b => ?_, fun j a b => ?_, e.nx⟩⟩
    · rw [e.ρ j a (by omega), if_pos b]
    · rw [e.hp j a (by omega), hlo j b]
    · rw [e.ρ j (by omega) b, if_neg (by omega)]
    · rw [e.hp j (by omega) b, hhi j a]
  have hle := h.le
  have hle' := h'.le
  refine ⟨⟨by omega, fun j hj => ?_, fun b => ?_, fun p hp => ?_, fun j hj => ?_, fun E e j root hj => ?_⟩, hext⟩
  · rw [h.out j (by omega), h'.out j (by omega), fadd_fz]
  · rw [sumTo_add, h'.sum b]
    have := sumTo_more (Fs := Fs1) b hle' (fun j h1 _ => by rw [h.out j (.inr h1)]; rfl)
    rw [this, h.sum b]
    rfl
  · rcases List.mem_append.1 hp with hp | hp
    · have := h.keys p hp; omega
    · have := h'.keys p hp; omega
  · by_cases e : j < m
    · rw [hlo j e] at hj
      rw [h.dead j hj, h'.out j (.inl e), fadd_fz]
    · rw [hhi j (by omega)] at hj
      rw [h'.dead j hj, h.out j (.inr (by omega)), fadd_fz]
  · obtain ⟨e1, e2⟩ := hext E e
    by_cases e : j < m
    · rw [hlo j e] at hj
      rw [h'.out j (.inl e), fadd_fz]
      exact h.roots E e1 j root hj
    · rw [hhi j (by omega)] at hj
      rw [h.out j (.inr (by omega)), fz_fadd]
      exact h'.roots E e2 j root hj
theorem FrzRow.grow {Z Z' : Zs} {r : Row} {v : Value} (h : FrzRow w Z r v) (hz : ∀ b, Z b → Z' b) : FrzRow w Z' r v := h.mono (fun b hb => ⟨hz b hb, rfl⟩)
/-- A row of one's own, named. -/
theorem Frag.row {n e : Nat} {r : Row} {q : Option (Nat × Nat)} {F : FP} (h : RowRel w ZL q r.cells r.len r.size F) : Frag w Zf ZL n (n + 1) [(n, some (.row e 0 r))] F (fun _ => q) (putF (fun _ => fz) n F) := by
  refine ⟨Nat.le_succ _, fun j hj => putF_ne _ _ (by omega), fun b => ?_, by simp, fun j hj => ?_, fun E ex j root hj => ?_⟩
  · rw [sumTo_put_new, sumTo_fz n b _ (fun _ _ => rfl)]; omega
  · rw [upd_one] at hj
    split at hj
    · cases hj
    · exact putF_ne _ _ ‹_›
  · rw [upd_one] at hj
    split at hj
    · rename_i e'
      subst e'
      cases hj
      rw [putF_self]
      show RowRel E.w E.ZL (E.ρ j) r.cells r.len r.size F
      rw [ex.ρ j (Nat.le_refl _) (Nat.lt_succ_self _), ex.w]
      exact h.mono (fun b hb => ⟨ex.zl b hb, rfl⟩) (fun b _ => rfl)
    · cases hj
theorem inLeaf_sound {tt : TT} {t n n' : Nat} {d : DL} {x : LV} {up : List (Nat × Option Root)} (hi : inLeaf tt t d n = some (x, up, n')) {v : Value} {F : FP} (hd : DLRel w Zf ZL d v F) :
    ∃ ρ1 Fs1, Frag w Zf ZL n n' up F ρ1 Fs1 ∧ ∀ E, Ext w Zf ZL n n' up ρ1 E → LVRel E x v := by
  have plain : F = fz → up = [] → n' = n → (∀ E, Ext w Zf ZL n n' up (fun _ => none) E → LVRel E x v) → ∃ ρ1 Fs1, Frag w Zf ZL n n' up F ρ1 Fs1 ∧ ∀ E, Ext w Zf ZL n n' up ρ1 E → LVRel E x v := fun h1 h2 h3 h4 => by
    subst h1 h2 h3
    exact ⟨_, _, Frag.nil n' _, h4⟩
  cases d with
  | i k z => cases hi; exact plain hd.2 rfl rfl (fun E _ => hd.1)
  | b z => cases hi; exact plain hd.2 rfl rfl (fun E _ => hd.1)
  | s z => cases hi; exact plain hd.2 rfl rfl (fun E _ => hd.1)
  | er z => cases z <;> (cases hi; exact plain hd.2 rfl rfl (fun E _ => hd.1))
  | sl c r =>
    cases c with
    | frz => cases hi; exact plain hd.2 rfl rfl (fun E ex => by show FrzRow E.w E.Zf r v; rw [ex.w]; exact hd.1.grow ex.zf)
    | lent => cases hi; exact plain hd.2 rfl rfl (fun E ex => by show FrzRow E.w E.ZL r v; rw [ex.w]; exact hd.1.grow ex.zl)
    | own =>
      simp only [inLeaf] at hi
      split at hi
      · rename_i e he
        cases hi
        obtain ⟨q, hv, hr⟩ := hd
        refine ⟨_, _, Frag.row hr, fun E ex => ⟨by have := ex.nx; omega, fun root hroot => ?_⟩⟩
        rw [ex.hp n (Nat.le_refl _) (Nat.lt_succ_self _), upd_one, if_pos rfl] at hroot
        cases hroot
        exact ⟨r, rfl, by rw [ex.ρ n (Nat.le_refl _) (Nat.lt_succ_self _)]; exact hv⟩
      · cases hi
theorem inLeafs_sound {tt : TT} : ∀ (ts : List Nat) (ds : List DL) (n n' : Nat) (xs : List LV) (up : List (Nat × Option Root)) (vs : List Value) (F : FP), inLeafs tt ts ds n = some (xs, up, n') → DLsRel w Zf ZL ds vs F →
    ∃ ρ1 Fs1, Frag w Zf ZL n n' up F ρ1 Fs1 ∧ ∀ E, Ext w Zf ZL n n' up ρ1 E → LVsRel E xs vs
  | [], [], n, n', xs, up, vs, F, hi, hd => by
    simp only [inLeafs, Option.some.injEq, Prod.mk.injEq] at hi
    obtain ⟨rfl, rfl, rfl⟩ := hi
    cases vs with
    | nil => have : F = fz := hd
             subst this
             exact ⟨_, _, Frag.nil n (fun _ => none), fun _ _ => trivial⟩
    | cons v vs => exact absurd hd id
  | [], _ :: _, _, _, _, _, _, _, hi, _ => by simp [inLeafs] at hi
  | _ :: _, [], _, _, _, _, _, _, hi, _ => by simp [inLeafs] at hi
  | t :: ts, d :: ds, n, n', xs, up, vs, F, hi, hd => by
    simp only [inLeafs] at hi
    split at hi
    · rename_i x up1 m h1
      split at hi
      · rename_i ys up2 n2 h2
        simp only [Option.some.injEq, Prod.mk.injEq] at hi
        obtain ⟨rfl, rfl, rfl⟩ := hi
        cases vs with
        | nil => exact absurd hd id
        | cons v vs =>
          obtain ⟨F1, F2, d1, d2, rfl⟩ := hd
          obtain ⟨ρ1, Fs1, f1, r1⟩ := inLeaf_sound h1 d1
          obtain ⟨ρ2, Fs2, f2, r2⟩ := inLeafs_sound ts ds _ _ _ _ _ _ h2 d2
          obtain ⟨f3, e3⟩ := f1.join f2
          exact ⟨_, _, f3, fun E ex => ⟨r1 E (e3 E ex).1, r2 E (e3 E ex).2⟩⟩
      · cases hi
    · cases hi
theorem Frag.box {n n' t : Nat} {up : List (Nat × Option Root)} {F' : FP} {ρ1 : Place} {Fs1 : Nat → FP} (h : Frag w Zf ZL (n + 1) n' up F' ρ1 Fs1) {b : Nat} {vs : Array Value} {ty : TypeId} (hb : w.heap[b]? = some (.cells vs ty (0, 0))) {xs : List LV} (hx : ∀ E, Ext w Zf ZL (n + 1) n' up ρ1 E → LVsRel E xs vs.toList) :
    Frag w Zf ZL n n' (up ++ [(n, some (.box t xs))]) (fadd (f1 b) F') (fun j => if j = n then some (b, 1) else ρ1 j) (putF Fs1 n (f1 b)) ∧
    (∀ E, Ext w Zf ZL n n' (up ++ [(n, some (.box t xs))]) (fun j => if j = n then some (b, 1) else ρ1 j) E → LVRel E (.bptr n 0) (.pointer (some ⟨b, 0, none⟩))) := by
  have hle := h.le
  have hat : ∀ j, upd nohp (up ++ [(n, some (.box t xs))]) j = if j = n then some (.box t xs) else upd nohp up j := fun j => by rw [upd_append, upd_one]
  have hnn : upd nohp up n = none := upd_out _ _ (fun p hp e => by have := (h.keys p hp).1; omega)
  have hFn : Fs1 n = fz := h.out n (.inl (by omega))
  have hext : ∀ E, Ext w Zf ZL n n' (up ++ [(n, some (.box t xs))]) (fun j => if j = n then some (b, 1) else ρ1 j) E → Ext w Zf ZL (n + 1) n' up ρ1 E := fun E e =>
    ⟨e.w, e.zf, e.zl, fun j a c => by rw [e.ρ j (by omega) c, if_neg (by omega)], fun j a c => by rw [e.hp j (by omega) c, hat, if_neg (by omega)], e.nx⟩
  refine ⟨⟨by omega, fun j hj => ?_, fun b' => ?_, fun p hp => ?_, fun j hj => ?_, fun E e j root hj => ?_⟩, fun E e => ?_⟩
  · rw [putF_ne _ _ (by omega)]
    exact h.out j (by omega)
  · have h1 := sumTo_put Fs1 (f1 b) b' (n := n') (id := n) (by omega)
    have h2 := h.sum b'
    rw [hFn] at h1
    simp at h1 ⊢
    omega
  · rcases List.mem_append.1 hp with hp | hp
    · have := h.keys p hp; omega
    · simp at hp; subst hp; simp; omega
  · rw [hat] at hj
    split at hj
    · cases hj
    · rw [putF_ne _ _ ‹_›]; exact h.dead j hj
  · rw [hat] at hj
    split at hj
    · rename_i e'
      subst e'
      cases hj
      rw [putF_self]
      exact ⟨b, 1, vs, ty, by rw [e.ρ j (Nat.le_refl _) (by omega), if_pos rfl], by rw [e.w]; exact hb, hx E (hext E e), rfl⟩
    · rename_i e'
      rw [putF_ne _ _ e']
      exact h.roots E (hext E e) j root hj
  · refine ⟨by have := e.nx; omega, fun root hr => ?_, b, 1, by rw [e.ρ n (Nat.le_refl _) (by omega), if_pos rfl], rfl⟩
    rw [e.hp n (Nat.le_refl _) (by omega), hat, if_pos rfl] at hr
    cases hr
    trivial
theorem inArg_sound {tt : TT} {t n n' : Nat} {d : DV} {x : AV} {up : List (Nat × Option Root)} (hi : inArg tt t d n = some (x, up, n')) {v : Value} {F : FP} (hd : DVRel w Zf ZL d v F) :
    ∃ ρ1 Fs1, Frag w Zf ZL n n' up F ρ1 Fs1 ∧ ∀ E, Ext w Zf ZL n n' up ρ1 E → AVRel E x v := by
  cases d with
  | l d =>
    simp only [inArg] at hi
    split at hi
    · rename_i y up1 m h1
      simp only [Option.some.injEq, Prod.mk.injEq] at hi
      obtain ⟨rfl, rfl, rfl⟩ := hi
      exact inLeaf_sound h1 hd
    · cases hi
  | agg ds =>
    simp only [inArg] at hi
    split at hi
    · rename_i ys up1 m h1
      simp only [Option.some.injEq, Prod.mk.injEq] at hi
      obtain ⟨rfl, rfl, rfl⟩ := hi
      obtain ⟨vs, rfl, hd⟩ := hd
      obtain ⟨ρ1, Fs1, f1, r1⟩ := inLeafs_sound _ _ _ _ _ _ _ _ h1 hd
      exact ⟨ρ1, Fs1, f1, fun E ex => ⟨vs, rfl, r1 E ex⟩⟩
    · cases hi
  | ptr ds =>
    simp only [inArg] at hi
    split at hi
    · rename_i e sz bs hq
      split at hi
      · rename_i ys up1 m h1
        simp only [Option.some.injEq, Prod.mk.injEq] at hi
        obtain ⟨rfl, rfl, rfl⟩ := hi
        obtain ⟨b, vs, ty, F', rfl, hb, hd, rfl⟩ := hd
        obtain ⟨ρ1, Fs1, f1', r1⟩ := inLeafs_sound _ _ _ _ _ _ _ _ h1 hd
        obtain ⟨f2, r2⟩ := f1'.box (t := e) hb r1
        exact ⟨_, _, f2, r2⟩
      · cases hi
    · cases hi
theorem inArgs_sound {tt : TT} : ∀ (ts : List Nat) (ds : List DV) (n n' : Nat) (xs : List AV) (up : List (Nat × Option Root)) (vs : List Value) (F : FP), inArgs tt ts ds n = some (xs, up, n') → DVsRel w Zf ZL ds vs F →
    ∃ ρ1 Fs1, Frag w Zf ZL n n' up F ρ1 Fs1 ∧ ∀ E, Ext w Zf ZL n n' up ρ1 E → AVsRel E xs vs
  | [], [], n, n', xs, up, vs, F, hi, hd => by
    simp only [inArgs, Option.some.injEq, Prod.mk.injEq] at hi
    obtain ⟨rfl, rfl, rfl⟩ := hi
    cases vs with
    | nil => have : F = fz := hd
             subst this
             exact ⟨_, _, Frag.nil n (fun _ => none), fun _ _ => trivial⟩
    | cons v vs => exact absurd hd id
  | [], _ :: _, _, _, _, _, _, _, hi, _ => by simp [inArgs] at hi
  | _ :: _, [], _, _, _, _, _, _, hi, _ => by simp [inArgs] at hi
  | t :: ts, d :: ds, n, n', xs, up, vs, F, hi, hd => by
    simp only [inArgs] at hi
    split at hi
    · rename_i x up1 m h1
      split at hi
      · rename_i ys up2 n2 h2
        simp only [Option.some.injEq, Prod.mk.injEq] at hi
        obtain ⟨rfl, rfl, rfl⟩ := hi
        cases vs with
        | nil => exact absurd hd id
        | cons v vs =>
          obtain ⟨F1, F2, d1, d2, rfl⟩ := hd
          obtain ⟨ρ1, Fs1, f1, r1⟩ := inArg_sound h1 d1
          obtain ⟨ρ2, Fs2, f2, r2⟩ := inArgs_sound ts ds _ _ _ _ _ _ h2 d2
          obtain ⟨f3, e3⟩ := f1.join f2
          exact ⟨_, _, f3, fun E ex => ⟨r1 E (e3 E ex).1, r2 E (e3 E ex).2⟩⟩
      · cases hi
    · cases hi
/-- A call's start: the memory. -/
theorem Frag.start {C : Cx} {n : Nat} {up : List (Nat × Option Root)} {ρ1 : Place} {Fs1 : Nat → FP} (h : Frag C.w0 C.Zf0 C.Zl 0 n up C.F0 ρ1 Fs1) (h1 : ∀ b, C.F0 b ≤ 1) (h2 : ∀ b, 1 ≤ C.F0 b → b < C.w0.heap.size) :
    MRel C (upd nohp up) n C.w0 ρ1 Fs1 ∧ Ext C.w0 C.Zf0 C.Zl 0 n up ρ1 (C.env C.w0 ρ1 (upd nohp up) n Fs1) := by
  have hex : Ext C.w0 C.Zf0 C.Zl 0 n up ρ1 (C.env C.w0 ρ1 (upd nohp up) n Fs1) := ⟨rfl, fun b hb => .inl hb, fun b hb => .inl hb, fun _ _ _ => rfl, fun _ _ _ => rfl, Nat.le_refl _⟩
  refine ⟨⟨fun id hid => ?_, fun id root hid => h.roots _ hex id root hid, h.dead, fun b => ?_, fun b hb => ?_, ⟨Nat.le_refl _, rfl, rfl, rfl, fun _ _ _ => rfl⟩⟩, hex⟩
  · exact upd_out _ _ (fun p hp e => by have := (h.keys p hp).2; omega)
  · rw [h.sum b]; exact h1 b
  · rw [h.sum b] at hb
    exact ⟨h2 b hb, .inr hb⟩
end
end Go.Proofs.Ytfkejiljabmaaaa.V
