/- What the operations do: addresses, cuts, loads, lengths. Conditions: the types' table holds of the program. -/
import Derived.Test.YtfkejiljabmaaaaVMem
set_option linter.unusedVariables false
set_option linter.unusedSimpArgs false
namespace Go.Proofs.Ytfkejiljabmaaaa.V
open Go

/-! ### Runs -/
section
variable {P : Program} {w : World}
theorem run_typeInfo' {t : TypeId} {i : TypeInfo} (h : P.info? t = some i) : (typeInfo t).run P w = .ok i w := by
  simp [typeInfo, program, h, go_sem, Sem.run, Bind.bind, Sem.bind, Pure.pure]
theorem run_sizeOf' {t : TypeId} {i : TypeInfo} (h : P.info? t = some i) : (sizeOf t).run P w = .ok i.size w := by
  unfold sizeOf
  rw [run_then (run_typeInfo' h)]
  rfl
def aggD : TypeDesc → Bool
  | .struct _ => true
  | .array _ _ => true
  | _ => false
theorem run_isAgg' {t : TypeId} {d : TypeDesc} (h : P.underlying t = some d) : (isAgg t).run P w = .ok (aggD d) w := by
  unfold isAgg
  rw [run_then (run_underlying h w)]
  cases d <;> rfl
theorem run_indexAt_sl {t e : TypeId} {i : TypeInfo} (h : P.underlying t = some (.slice e)) (hi : P.info? e = some i) (a : Addr) (len cap : Nat) (k : IntKind) (n : Int) (h0 : 0 ≤ n) (h1 : n < len) :
    (Instr.indexAt t (.slice (some a) len cap) (.int k n)).run P w = .ok (.pointer (some (a.add (n.toNat * i.size)))) w := by
  have he : P.elem t = e := by simp [Program.elem, h]
  have e1 := run_indexAt_slice (P := P) w t a len cap k n (by rw [he]; exact h)
  rw [e1, if_pos ⟨h0, h1⟩, he, run_sizeOf' hi]
  rfl
theorem run_indexAt_arr {t e : TypeId} {i : TypeInfo} {m : Nat} (h : P.underlying t = some (.array m e)) (hi : P.info? e = some i) (a : Addr) (k : IntKind) (n : Int) (h0 : 0 ≤ n) (h1 : n < m) :
    (Instr.indexAt t (.pointer (some a)) (.int k n)).run P w = .ok (.pointer (some (a.add (n.toNat * i.size)))) w := by
  have he : P.elem t = e := by simp [Program.elem, h]
  have hm : P.arrayLen t = m := by simp [Program.arrayLen, h]
  have e1 := run_indexAt_array (P := P) w t a k n (by rw [he, hm]; exact h)
  rw [e1, hm, if_pos ⟨h0, h1⟩, he, run_sizeOf' hi]
  rfl
theorem run_fieldAt' {t : TypeId} {fs : Array Field} {f : Field} {j : Nat} {i : TypeInfo} (h : P.underlying t = some (.struct fs)) (hf : fs[j]? = some f) (hi : P.info? f.type = some i) (h0 : i.size ≠ 0) (a : Addr) :
    (Instr.fieldAt t (.pointer (some a)) j).run P w = .ok (.pointer (some (a.add f.offset))) w := by
  unfold Instr.fieldAt
  rw [run_then (run_underlying h w)]
  simp only [hf]
  rw [run_then (x := a) (w' := w) rfl]
  rw [run_then (x := a.add f.offset) (w' := w) (by
    unfold fieldPlace
    rw [run_then (run_sizeOf' hi)]
    simp only [h0, if_false]
    rfl)]
  rfl
theorem run_loadVar_one {t : TypeId} {d : TypeDesc} (h : P.underlying t = some d) (hd : aggD d = false) {a : Addr} {v : Value} (hc : w.cell? a = some v) :
    (Instr.loadAt t (.pointer (some a))).run P w = .ok v w := by
  unfold Instr.loadAt
  rw [run_then (x := a) (w' := w) rfl]
  unfold loadVar
  rw [run_then (run_isAgg' h), hd]
  simp [load, Sem.run, hc]
theorem run_loadVar_agg {t : TypeId} {fs : Array Field} {i : TypeInfo} (h : P.underlying t = some (.struct fs)) (hi : P.info? t = some i) {a : Addr} {vs : List Value} (hl : vs.length = i.size) (hc : ∀ j v, vs[j]? = some v → w.cell? (a.add j) = some v) :
    (Instr.loadAt t (.pointer (some a))).run P w = .ok (.agg vs.toArray) w := by
  unfold Instr.loadAt
  rw [run_then (x := a) (w' := w) rfl]
  unfold loadVar
  rw [run_then (run_isAgg' h)]
  simp only [aggD, if_true]
  rw [run_then (run_sizeOf' hi), ← hl, run_then (run_loadCells_list w a vs hc)]
  rfl
theorem run_sliceBound' (k : IntKind) (i : Int) (y : Nat) (code : BoundsCode) (h0 : 0 ≤ i) (h1 : i ≤ y) : (Instr.sliceBound (.int k i) y code).run P w = .ok i.toNat w := by
  unfold Instr.sliceBound
  rw [run_then (x := (k, i)) (w' := w) rfl]
  simp only [h0, h1, and_self, if_true]
  rfl
def boundOf (o : Option Value) (d : Nat) (n : Nat) : Prop := match o with
  | none => n = d
  | some v => ∃ (k : IntKind) (i : Int), v = .int k i ∧ 0 ≤ i ∧ n = i.toNat
theorem run_sliceBounds' (b : Bool) (len cap : Nat) (lo hi : Option Value) (l h : Nat) (hlo : boundOf lo 0 l) (hhi : boundOf hi len h) (h1 : l ≤ h) (h2 : h ≤ cap) : (Instr.sliceBounds b len cap lo hi none).run P w = .ok (l, h, cap) w := by
  cases hi with
  | none =>
    cases hhi
    cases lo with
    | none => cases hlo; rfl
    | some v =>
      obtain ⟨k, i, rfl, h0, rfl⟩ := hlo
      unfold Instr.sliceBounds
      show Sem.run P (do let l ← Instr.sliceBound (.int k i) len _; pure (l, len, cap)) w = _
      rw [run_then (run_sliceBound' k i len _ h0 (by omega))]
      rfl
  | some u =>
    obtain ⟨k', i', rfl, h0', rfl⟩ := hhi
    cases lo with
    | none =>
      cases hlo
      unfold Instr.sliceBounds
      show Sem.run P (do let h ← Instr.sliceBound (.int k' i') cap _; pure (0, h, cap)) w = _
      rw [run_then (run_sliceBound' k' i' cap _ h0' (by omega))]
      rfl
    | some v =>
      obtain ⟨k, i, rfl, h0, rfl⟩ := hlo
      unfold Instr.sliceBounds
      show Sem.run P (do let h ← Instr.sliceBound (.int k' i') cap _; let l ← Instr.sliceBound (.int k i) h _; pure (l, h, cap)) w = _
      rw [run_then (run_sliceBound' k' i' cap _ h0' (by omega)), run_then (run_sliceBound' k i _ _ h0 (by omega))]
      rfl
theorem run_slice_sl {t e : TypeId} {i : TypeInfo} (h : P.underlying t = some (.slice e)) (hi : P.info? e = some i) (a : Option Addr) (len cap : Nat) (lo hig : Option Value) (l hh : Nat) (hlo : boundOf lo 0 l) (hhi : boundOf hig len hh) (h1 : l ≤ hh) (h2 : hh ≤ cap) :
    (Instr.sliceAt t (.slice a len cap) lo hig none).run P w = .ok (.slice (if cap = l then a else a.map (·.add (l * i.size))) (hh - l) (cap - l)) w := by
  unfold Instr.sliceAt
  rw [run_then (run_underlying h w)]
  show (Instr.slice t (.slice a len cap) lo hig none).run P w = _
  unfold Instr.slice
  rw [run_then (run_underlying h w)]
  simp only []
  rw [run_then (run_sliceBounds' true len cap lo hig l hh hlo hhi h1 h2)]
  rw [run_then (run_sizeOf' hi)]
  rfl
theorem run_slice_str {t : TypeId} (h : P.underlying t = some .string) (s : ByteArray) (lo hig : Option Value) (l hh : Nat) (hlo : boundOf lo 0 l) (hhi : boundOf hig s.size hh) (h1 : l ≤ hh) (h2 : hh ≤ s.size) :
    (Instr.sliceAt t (.string s) lo hig none).run P w = .ok (.string (s.extract l hh)) w := by
  unfold Instr.sliceAt
  rw [run_then (run_underlying h w)]
  show (Instr.slice t (.string s) lo hig none).run P w = _
  unfold Instr.slice
  rw [run_then (run_underlying h w)]
  simp only [Option.isSome_none, Bool.false_eq_true, if_false]
  rw [run_then (run_sliceBounds' false s.size s.size lo hig l hh hlo hhi h1 h2)]
  rfl
theorem run_index_str {t : TypeId} (h : P.underlying t = some .string) (s : ByteArray) (k : IntKind) (n : Int) (h0 : 0 ≤ n) (h1 : n < s.size) : (Instr.index t (.string s) (.int k n)).run P w = .ok (.int .u8 (sb s n.toNat)) w := by
  unfold Instr.index
  rw [run_then (x := (k, n)) (w' := w) rfl]
  rw [run_then (run_underlying h w)]
  have hl : n.toNat < s.size := by omega
  have e : s[n.toNat]? = some s[n.toNat] := by simp [getElem?_pos, hl]
  simp only [h0, if_true, e]
  have e2 : s.data[n.toNat]? = some s[n.toNat] := by
    have : n.toNat < s.data.size := hl
    rw [Array.getElem?_eq_getElem this]; rfl
  show Result.ok _ _ = _
  simp [sb, e2]
end
end Go.Proofs.Ytfkejiljabmaaaa.V
