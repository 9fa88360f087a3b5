/- The relation between an abstract state and a running frame, and how a change carries it on. Conditions: none. -/
import Derived.Test.YtfkejiljabmaaaaVSt
set_option linter.unusedVariables false
namespace Go.Proofs.Ytfkejiljabmaaaa.V
open Go

/-! ### Sums of footprints -/
def sumTo : Nat → (Nat → FP) → FP
  | 0, _ => fz
  | n + 1, Fs => fadd (sumTo n Fs) (Fs n)
theorem sumTo_le (Fs : Nat → FP) (b : Nat) : ∀ {n id : Nat}, id < n → Fs id b ≤ sumTo n Fs b
  | n + 1, id, h => by
    by_cases e : id = n
    · subst e; simp [sumTo]
    · have := sumTo_le Fs b (n := n) (id := id) (by omega); simp [sumTo]; omega
theorem sumTo_two (Fs : Nat → FP) (b : Nat) : ∀ {n i j : Nat}, i < n → j < n → i ≠ j → Fs i b + Fs j b ≤ sumTo n Fs b
  | n + 1, i, j, hi, hj, hne => by
    by_cases ei : i = n
    · subst ei; have := sumTo_le Fs b (n := i) (id := j) (by omega); simp [sumTo]; omega
    · by_cases ej : j = n
      · subst ej; have := sumTo_le Fs b (n := j) (id := i) (by omega); simp [sumTo]; omega
      · have := sumTo_two Fs b (n := n) (i := i) (j := j) (by omega) (by omega) hne; simp [sumTo]; omega
theorem sumTo_congr {Fs Gs : Nat → FP} (b : Nat) : ∀ {n : Nat}, (∀ j, j < n → Fs j b = Gs j b) → sumTo n Fs b = sumTo n Gs b
  | 0, _ => rfl
  | n + 1, h => by simp [sumTo, sumTo_congr b (n := n) (fun j hj => h j (by omega)), h n (by omega)]
theorem sumTo_more {Fs : Nat → FP} (b : Nat) : ∀ {m n : Nat}, n ≤ m → (∀ j, n ≤ j → j < m → Fs j b = 0) → sumTo m Fs b = sumTo n Fs b
  | 0, n, h, _ => by have : n = 0 := by omega
                     subst this; rfl
  | m + 1, n, h, hz => by
    by_cases e : n = m + 1
    · subst e; rfl
    · simp [sumTo, sumTo_more b (m := m) (n := n) (by omega) (fun j h1 h2 => hz j h1 (by omega)), hz m (by omega) (by omega)]
def putF (Fs : Nat → FP) (id : Nat) (F : FP) : Nat → FP := fun j => if j = id then F else Fs j
@[simp] theorem putF_self (Fs : Nat → FP) (id : Nat) (F : FP) : putF Fs id F id = F := by simp [putF]
theorem putF_ne (Fs : Nat → FP) {id j : Nat} (F : FP) (h : j ≠ id) : putF Fs id F j = Fs j := by simp [putF, h]
theorem sumTo_put (Fs : Nat → FP) (F : FP) (b : Nat) : ∀ {n id : Nat}, id < n → sumTo n (putF Fs id F) b + Fs id b = sumTo n Fs b + F b
  | n + 1, id, h => by
    by_cases e : id = n
    · subst e
      have := sumTo_congr (Fs := putF Fs id F) (Gs := Fs) b (n := id) (fun j hj => by rw [putF_ne _ _ (by omega)])
      simp [sumTo]; omega
    · have := sumTo_put Fs F b (n := n) (id := id) (by omega)
      simp [sumTo, putF_ne Fs F (show n ≠ id by omega)]; omega
theorem sumTo_put_new (Fs : Nat → FP) (F : FP) (b : Nat) (n : Nat) : sumTo (n + 1) (putF Fs n F) b = sumTo n Fs b + F b := by
  have := sumTo_congr (Fs := putF Fs n F) (Gs := Fs) b (n := n) (fun j hj => by rw [putF_ne _ _ (by omega)])
  simp [sumTo, this]

/-! ### The relation -/
structure Cx where
  w0 : World
  F0 : FP
  Zl : Zs
  Zf0 : Zs
  N : Nat
  kv : List Value
  good : ∀ b, Zl b ∨ Zf0 b → b < w0.heap.size ∧ F0 b = 0
def Cx.Zf (C : Cx) (w : World) (F : FP) : Zs := fun b => C.Zf0 b ∨ ((C.w0.heap.size ≤ b ∨ 1 ≤ C.F0 b) ∧ b < w.heap.size ∧ F b = 0)
def Cx.ZL (C : Cx) (w : World) (F : FP) : Zs := fun b => C.Zl b ∨ C.Zf w F b
def Cx.env (C : Cx) (w : World) (ρ : Place) (hp : Nat → Option Root) (nx : Nat) (Fs : Nat → FP) : Env := { w, Zf := C.Zf w (sumTo nx Fs), ZL := C.ZL w (sumTo nx Fs), ρ, hp, nx }
/-- The value of a slot: of the frame, or one that is kept. -/
def Cx.val (C : Cx) (a : Act) (t : Nat) : Value := if t < C.N then a.tmps.getD t undef else C.kv.getD (t - C.N) undef
structure Frame (C : Cx) (w : World) : Prop where
  size : C.w0.heap.size ≤ w.heap.size
  os : w.os = C.w0.os
  tape : w.tape = C.w0.tape
  output : w.output = C.w0.output
  block : ∀ b, b < C.w0.heap.size → C.F0 b = 0 → w.heap[b]? = C.w0.heap[b]?
structure MRel (C : Cx) (hp : Nat → Option Root) (nx : Nat) (w : World) (ρ : Place) (Fs : Nat → FP) : Prop where
  fresh : ∀ id, nx ≤ id → hp id = none
  roots : ∀ id root, hp id = some root → RootRel (C.env w ρ hp nx Fs) id root (Fs id)
  dead : ∀ id, hp id = none → Fs id = fz
  one : ∀ b, sumTo nx Fs b ≤ 1
  mine : ∀ b, 1 ≤ sumTo nx Fs b → b < w.heap.size ∧ (C.w0.heap.size ≤ b ∨ 1 ≤ C.F0 b)
  frame : Frame C w
structure SRel (C : Cx) (S : St) (a : Act) (w : World) (ρ : Place) (Fs : Nat → FP) : Prop where
  mem : MRel C S.hp S.nx w ρ Fs
  defers : a.defers = []
  size : a.tmps.size = C.N
  slots : ∀ t, AVRel (C.env w ρ S.hp S.nx Fs) (S.sl t) (C.val a t)

/-- A change of memory. -/
structure Chg (C : Cx) (hp : Nat → Option Root) (nx : Nat) (w : World) (ρ : Place) (Fs : Nat → FP) (hp' : Nat → Option Root) (nx' : Nat) (w' : World) (ρ' : Place) (Fs' : Nat → FP) : Prop where
  size : w.heap.size ≤ w'.heap.size
  os : w'.os = w.os
  tape : w'.tape = w.tape
  output : w'.output = w.output
  agree : ∀ b, b < w.heap.size → sumTo nx Fs b = 0 → w'.heap[b]? = w.heap[b]?
  nxle : nx ≤ nx'
  same : ∀ id, id < nx → (∀ root, hp id = some root → root.real) → ρ' id = ρ id
  like : ∀ id root', id < nx → hp' id = some root' → ∃ root, hp id = some root ∧ (Like w w' (ρ id) root root' ∨ root' = root ∧ ∃ e v r i f, root = .hole e v r i f)
  fresh : ∀ id, nx' ≤ id → hp' id = none
  dead : ∀ id, hp' id = none → Fs' id = fz
  one : ∀ b, sumTo nx' Fs' b ≤ 1
  new : ∀ b, 1 ≤ sumTo nx' Fs' b → 1 ≤ sumTo nx Fs b ∨ (w.heap.size ≤ b ∧ b < w'.heap.size)
theorem Chg.mono {C : Cx} {hp : Nat → Option Root} {nx : Nat} {w : World} {ρ : Place} {Fs : Nat → FP} {hp' : Nat → Option Root} {nx' : Nat} {w' : World} {ρ' : Place} {Fs' : Nat → FP} (h : Chg C hp nx w ρ Fs hp' nx' w' ρ' Fs') (m : MRel C hp nx w ρ Fs) : Mono (C.env w ρ hp nx Fs) (C.env w' ρ' hp' nx' Fs') := by
  have hzf : ∀ b, C.Zf w (sumTo nx Fs) b → C.Zf w' (sumTo nx' Fs') b ∧ w'.heap[b]? = w.heap[b]? := by
    rintro b (h0 | ⟨h1, h2, h3⟩)
    · refine ⟨.inl h0, ?_⟩
      obtain ⟨g1, g2⟩ := C.good b (.inr h0)
      refine h.agree b (Nat.lt_of_lt_of_le g1 m.frame.size) ?_
      rcases Nat.eq_zero_or_pos (sumTo nx Fs b) with e | e
      · exact e
      · obtain ⟨_, k⟩ := m.mine b e; omega
    · refine ⟨.inr ⟨h1, Nat.lt_of_lt_of_le h2 h.size, ?_⟩, h.agree b h2 h3⟩
      rcases Nat.eq_zero_or_pos (sumTo nx' Fs' b) with e | e
      · exact e
      · rcases h.new b e with k | k <;> omega
  refine ⟨hzf, ?_, h.nxle, h.same, h.like⟩
  rintro b (h0 | h0)
  · refine ⟨.inl h0, ?_⟩
    obtain ⟨g1, g2⟩ := C.good b (.inl h0)
    refine h.agree b (Nat.lt_of_lt_of_le g1 m.frame.size) ?_
    rcases Nat.eq_zero_or_pos (sumTo nx Fs b) with e | e
    · exact e
    · obtain ⟨_, k⟩ := m.mine b e; omega
  · exact ⟨.inr (hzf b h0).1, (hzf b h0).2⟩
theorem Chg.mrel {C : Cx} {hp : Nat → Option Root} {nx : Nat} {w : World} {ρ : Place} {Fs : Nat → FP} {hp' : Nat → Option Root} {nx' : Nat} {w' : World} {ρ' : Place} {Fs' : Nat → FP} (h : Chg C hp nx w ρ Fs hp' nx' w' ρ' Fs') (m : MRel C hp nx w ρ Fs)
    (hr : ∀ id root, hp' id = some root → (hp' id = hp id ∧ (∀ b, 1 ≤ Fs id b → w'.heap[b]? = w.heap[b]?) ∧ Fs' id = Fs id) ∨ RootRel (C.env w' ρ' hp' nx' Fs') id root (Fs' id)) : MRel C hp' nx' w' ρ' Fs' := by
  refine ⟨h.fresh, fun id root hid => ?_, h.dead, h.one, fun b hb => ?_, ?_⟩
  · rcases hr id root hid with ⟨h1, h2, h3⟩ | h1
    · have hlt : id < nx := by
        rcases Nat.lt_or_ge id nx with k | k
        · exact k
        · rw [h1, m.fresh id k] at hid; cases hid
      rw [h3]
      exact (m.roots id root (by rw [← h1]; exact hid)).mono (h.mono m) hlt (show hp id = some root by rw [← h1]; exact hid) h2
    · exact h1
  · rcases h.new b hb with k | k
    · exact ⟨Nat.lt_of_lt_of_le (m.mine b k).1 h.size, (m.mine b k).2⟩
    · exact ⟨k.2, .inl (Nat.le_trans m.frame.size k.1)⟩
  · refine ⟨Nat.le_trans m.frame.size h.size, by rw [h.os, m.frame.os], by rw [h.tape, m.frame.tape], by rw [h.output, m.frame.output], fun b h1 h2 => ?_⟩
    rw [← m.frame.block b h1 h2]
    refine h.agree b (Nat.lt_of_lt_of_le h1 m.frame.size) ?_
    rcases Nat.eq_zero_or_pos (sumTo nx Fs b) with e | e
    · exact e
    · obtain ⟨_, k⟩ := m.mine b e; omega

/-! ### Slots -/
theorem getD_set (l : Array Value) (t d : Nat) (v u : Value) : (l.setIfInBounds d v).getD t u = if t = d then (if d < l.size then v else l.getD t u) else l.getD t u := by
  by_cases h : t = d
  · subst h
    by_cases k : t < l.size
    · simp [k, Array.getD_eq_getD_getElem?]
    · simp [k, Array.getD_eq_getD_getElem?]
  · simp [h, Array.getD_eq_getD_getElem?, Ne.symm h]
theorem SRel.put {C : Cx} {S : St} {a : Act} {w : World} {ρ : Place} {Fs : Nat → FP} (h : SRel C S a w ρ Fs) (dst : Option Tmp) (v : AV) (u : Value) (hv : ∀ d, dst = some d → AVRel (C.env w ρ S.hp S.nx Fs) v u) (hd : ∀ d, dst = some d → d < C.N) : SRel C (S.put dst v) (a.put dst u) w ρ Fs := by
  cases dst with
  | none => exact h
  | some d =>
    refine ⟨h.mem, h.defers, by simp [Act.put, h.size], fun t => ?_⟩
    have hdN := hd d rfl
    have hs := h.slots t
    simp only [St.put, Act.put, Cx.val, getD_set, h.size] at hs ⊢
    by_cases e : t = d
    · subst e; simp [hdN]; exact hv t rfl
    · have : (d == t) = false := by simp; exact fun h => e h.symm
      have e2 : (t == d) = false := by simp [e]
      simp only [e, e2, if_false, cond_false]; exact hs
theorem SRel.change {C : Cx} {S : St} {a : Act} {w : World} {ρ : Place} {Fs : Nat → FP} (h : SRel C S a w ρ Fs) {hp' : Nat → Option Root} {nx' : Nat} {w' : World} {ρ' : Place} {Fs' : Nat → FP} (hc : Chg C S.hp S.nx w ρ Fs hp' nx' w' ρ' Fs')
    (hr : ∀ id root, hp' id = some root → (hp' id = S.hp id ∧ (∀ b, 1 ≤ Fs id b → w'.heap[b]? = w.heap[b]?) ∧ Fs' id = Fs id) ∨ RootRel (C.env w' ρ' hp' nx' Fs') id root (Fs' id)) : SRel C ⟨S.sl, hp', nx'⟩ a w' ρ' Fs' :=
  ⟨hc.mrel h.mem hr, h.defers, h.size, fun t => (h.slots t).mono (hc.mono h.mem)⟩
theorem AVRel.const (E : Env) (v : Value) : AVRel E (.l (ofConst v)) v := by
  unfold ofConst
  split <;> first | exact rfl | exact trivial
theorem SRel.rd {C : Cx} {S : St} {a : Act} {w : World} {ρ : Place} {Fs : Nat → FP} (h : SRel C S a w ρ Fs) (x : Operand) : AVRel (C.env w ρ S.hp S.nx Fs) (St.rd C.N S.sl x) (a.eval x) := by
  cases x with
  | tmp t =>
    simp only [St.rd]
    cases hb : Nat.blt t C.N with
    | false => exact trivial
    | true =>
      have hlt : t < C.N := by simpa [Nat.blt_eq] using hb
      have := h.slots t
      simp only [Cx.val, if_pos hlt] at this
      exact this
  | const v => exact AVRel.const _ v
  | global g => exact trivial
  | func f => exact rfl
end Go.Proofs.Ytfkejiljabmaaaa.V
