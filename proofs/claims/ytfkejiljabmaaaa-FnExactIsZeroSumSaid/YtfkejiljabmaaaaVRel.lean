/- How abstract states stand for frames and memory, and what such a relation survives. Conditions: none. -/
import Derived.Test.YtfkejiljabmaaaaVEval
import Derived.OwnWalk
import Derived.Calls
set_option linter.unusedVariables false
namespace Go.Proofs.Ytfkejiljabmaaaa.V
open Go

/-! ### Footprints: how often each block is owned -/
abbrev FP := Nat → Nat
def fz : FP := fun _ => 0
def f1 (b : Nat) : FP := fun x => if x = b then 1 else 0
def fadd (F G : FP) : FP := fun x => F x + G x
theorem fadd_fz (F : FP) : fadd F fz = F := by funext x; simp [fadd, fz]
theorem fz_fadd (F : FP) : fadd fz F = F := by funext x; simp [fadd, fz]
theorem fadd_assoc (F G H : FP) : fadd (fadd F G) H = fadd F (fadd G H) := by funext x; simp [fadd, Nat.add_assoc]
theorem fadd_comm (F G : FP) : fadd F G = fadd G F := by funext x; simp [fadd, Nat.add_comm]
theorem fadd_left_comm (F G H : FP) : fadd F (fadd G H) = fadd G (fadd F H) := by funext x; simp [fadd]; omega
@[simp] theorem fz_at (b : Nat) : fz b = 0 := rfl
@[simp] theorem fadd_at (F G : FP) (b : Nat) : fadd F G b = F b + G b := rfl
@[simp] theorem f1_self (b : Nat) : f1 b b = 1 := by simp [f1]
theorem f1_at (b x : Nat) : f1 b x = if x = b then 1 else 0 := rfl
abbrev Zs := Nat → Prop

/-! ### Cells -/
def IntsAt (w : World) (ad : Addr) (l : List Int) : Prop := ∀ (j : Nat) (n : Int), l[j]? = some n → w.cell? (ad.add j) = some (.int .i64 n)
def CellRel (w : World) (Z : Zs) : Cell → Value → FP → Prop
  | .free, _, F => F = fz
  | .sc u, v, F => v = u ∧ F = fz
  | .sl false l, v, F => F = fz ∧ ∃ A cap, v = .slice A l.length cap ∧ l.length ≤ cap ∧ (l ≠ [] → ∃ ad, A = some ad ∧ Z ad.block ∧ IntsAt w ad l)
  | .sl true l, v, F => (v = .slice none 0 0 ∧ l = [] ∧ F = fz) ∨ ∃ b cap arr ty, v = .slice (some ⟨b, 0, none⟩) l.length cap ∧ w.heap[b]? = some (.cells arr ty (0, 0)) ∧ l.length ≤ cap ∧ cap ≤ arr.size ∧ (∀ (j : Nat) (n : Int), l[j]? = some n → arr[j]? = some (Value.int .i64 n)) ∧ F = f1 b
def CellsRel (w : World) (Z : Zs) : List Cell → List Value → FP → Prop
  | [], _, F => F = fz
  | c :: cs, v :: vs, F => ∃ F1 F2, CellRel w Z c v F1 ∧ CellsRel w Z cs vs F2 ∧ F = fadd F1 F2
  | _ :: _, [], _ => False

theorem cell?_of_heap {w w' : World} {a : Addr} (h : w'.heap[a.block]? = w.heap[a.block]?) : w'.cell? a = w.cell? a := by
  unfold World.cell?; rw [h]
theorem add_block (a : Addr) (n : Nat) : (a.add n).block = a.block := by unfold Addr.add; split <;> rfl
theorem add_add (a : Addr) (m n : Nat) : (a.add m).add n = a.add (m + n) := by
  unfold Addr.add
  by_cases hm : m = 0
  · subst hm; simp
  · by_cases hn : n = 0
    · subst hn; simp [hm]
    · simp [hm, hn, Nat.add_assoc]
theorem add_zero (a : Addr) : a.add 0 = a := by simp [Addr.add]
theorem plain_add (b m n : Nat) : (⟨b, m, none⟩ : Addr).add n = ⟨b, m + n, none⟩ := by unfold Addr.add; split <;> simp_all
theorem cell?_plain {w : World} {b : Nat} {arr : Array Value} {ty : TypeId} {fr : Nat × Nat} (h : w.heap[b]? = some (.cells arr ty fr)) (j : Nat) : w.cell? ⟨b, j, none⟩ = arr[j]? := by
  simp [World.cell?, h]

theorem CellRel.mono {w w' : World} {Z Z' : Zs} {c : Cell} {v : Value} {F : FP} (h : CellRel w Z c v F) (hz : ∀ b, Z b → Z' b ∧ w'.heap[b]? = w.heap[b]?) (hf : ∀ b, 1 ≤ F b → w'.heap[b]? = w.heap[b]?) : CellRel w' Z' c v F := by
  match c, h with
  | .free, h => exact h
  | .sc u, h => exact h
  | .sl false l, ⟨h0, A, cap, hv, hlc, hl⟩ =>
    refine ⟨h0, A, cap, hv, hlc, fun hne => ?_⟩
    obtain ⟨ad, e, hZ, hi⟩ := hl hne
    refine ⟨ad, e, (hz _ hZ).1, fun j n hj => ?_⟩
    rw [cell?_of_heap (w := w) (by rw [add_block]; exact (hz _ hZ).2)]
    exact hi j n hj
  | .sl true l, .inl h => exact .inl h
  | .sl true l, .inr ⟨b, cap, arr, ty, hv, hb, h1, h2, h3, hF⟩ =>
    exact .inr ⟨b, cap, arr, ty, hv, by rw [hf b (by rw [hF]; simp)]; exact hb, h1, h2, h3, hF⟩

theorem CellsRel.mono {w w' : World} {Z Z' : Zs} (hz : ∀ b, Z b → Z' b ∧ w'.heap[b]? = w.heap[b]?) : ∀ {cs : List Cell} {vs : List Value} {F : FP}, CellsRel w Z cs vs F → (∀ b, 1 ≤ F b → w'.heap[b]? = w.heap[b]?) → CellsRel w' Z' cs vs F
  | [], _, _, h, _ => h
  | c :: cs, v :: vs, F, ⟨F1, F2, h1, h2, hF⟩, hf => ⟨F1, F2, h1.mono hz (fun b hb => hf b (by rw [hF]; simp; omega)), CellsRel.mono hz h2 (fun b hb => hf b (by rw [hF]; simp; omega)), hF⟩

theorem CellsRel.get {w : World} {Z : Zs} : ∀ {cs : List Cell} {vs : List Value} {F : FP}, CellsRel w Z cs vs F → ∀ {j : Nat} {c : Cell}, cs[j]? = some c → ∃ v F1 F2, vs[j]? = some v ∧ CellRel w Z c v F1 ∧ F = fadd F1 F2 ∧
      ∀ (c' : Cell) (v' : Value) (F' : FP), CellRel w Z c' v' F' → CellsRel w Z (cs.set j c') (vs.set j v') (fadd F' F2)
  | c0 :: cs, v :: vs, F, ⟨F1, F2, h1, h2, hF⟩, 0, c, hc => by
    simp at hc; subst hc
    exact ⟨v, F1, F2, rfl, h1, hF, fun c' v' F' h' => ⟨F', F2, h', h2, rfl⟩⟩
  | c0 :: cs, v :: vs, F, ⟨F1, F2, h1, h2, hF⟩, j + 1, c, hc => by
    obtain ⟨v', G1, G2, e, hr, hG, hset⟩ := CellsRel.get h2 (j := j) (c := c) (by simpa using hc)
    refine ⟨v', G1, fadd F1 G2, by simpa using e, hr, by rw [hF, hG, fadd_left_comm], fun c' v'' F' h' => ?_⟩
    exact ⟨F1, fadd F' G2, h1, hset c' v'' F' h', fadd_left_comm ..⟩

theorem CellsRel.length {w : World} {Z : Zs} : ∀ {cs : List Cell} {vs : List Value} {F : FP}, CellsRel w Z cs vs F → cs.length ≤ vs.length
  | [], _, _, _ => by simp
  | c :: cs, v :: vs, F, ⟨F1, F2, h1, h2, hF⟩ => by have := CellsRel.length h2; simp; omega
theorem CellsRel.append {w : World} {Z : Zs} : ∀ {cs ds : List Cell} {vs us : List Value} {F G : FP}, CellsRel w Z cs vs F → vs.length = cs.length → CellsRel w Z ds us G → CellsRel w Z (cs ++ ds) (vs ++ us) (fadd F G)
  | [], ds, [], us, F, G, h, _, h' => by cases h; rw [fz_fadd]; exact h'
  | c :: cs, ds, v :: vs, us, F, G, ⟨F1, F2, h1, h2, hF⟩, hl, h' => ⟨F1, fadd F2 G, h1, CellsRel.append h2 (by simpa using hl) h', by rw [hF, fadd_assoc]⟩
theorem CellsRel.more {w : World} {Z : Zs} : ∀ {cs : List Cell} {vs : List Value} {F : FP} (us : List Value), CellsRel w Z cs vs F → CellsRel w Z cs (vs ++ us) F
  | [], _, _, _, h => h
  | c :: cs, v :: vs, F, us, ⟨F1, F2, h1, h2, hF⟩ => ⟨F1, F2, h1, CellsRel.more us h2, hF⟩
theorem CellsRel.take {w : World} {Z : Zs} : ∀ {cs : List Cell} {vs : List Value} {F : FP} (n : Nat), CellsRel w Z cs vs F → ∃ F1, CellsRel w Z (cs.take n) (vs.take n) F1 ∧ ∀ b, F1 b ≤ F b
  | [], vs, F, n, h => ⟨fz, by simp [CellsRel], fun b => by simp⟩
  | c :: cs, v :: vs, F, 0, h => ⟨fz, by simp [CellsRel], fun b => by simp⟩
  | c :: cs, v :: vs, F, n + 1, ⟨F1, F2, h1, h2, hF⟩ => by
    obtain ⟨G, hG, hle⟩ := CellsRel.take n h2
    exact ⟨fadd F1 G, ⟨F1, G, h1, by simpa using hG, rfl⟩, fun b => by have := hle b; rw [hF]; simp; omega⟩
theorem CellsRel.drop {w : World} {Z : Zs} : ∀ {cs : List Cell} {vs : List Value} {F : FP} (n : Nat), CellsRel w Z cs vs F → ∃ F1, CellsRel w Z (cs.drop n) (vs.drop n) F1 ∧ ∀ b, F1 b ≤ F b
  | [], vs, F, n, h => ⟨fz, by simp [CellsRel], fun b => by simp⟩
  | c :: cs, v :: vs, F, 0, h => ⟨F, by simpa using h, fun b => Nat.le_refl _⟩
  | c :: cs, v :: vs, F, n + 1, ⟨F1, F2, h1, h2, hF⟩ => by
    obtain ⟨G, hG, hle⟩ := CellsRel.drop n h2
    exact ⟨G, by simpa using hG, fun b => by have := hle b; rw [hF]; simp; omega⟩
theorem CellsRel.shrink {w : World} {Z : Zs} : ∀ {cs : List Cell} {vs : List Value} {F : FP}, CellsRel w Z cs vs F → CellsRel w Z cs (vs.take cs.length) F
  | [], vs, F, h => h
  | c :: cs, v :: vs, F, ⟨F1, F2, h1, h2, hF⟩ => ⟨F1, F2, h1, by simpa using CellsRel.shrink h2, hF⟩

/-- The same, frozen. -/
def Cell.frz : Cell → Cell
  | .sl _ l => .sl false l
  | c => c
theorem CellRel.frz {w : World} {Z Z' : Zs} {c : Cell} {v : Value} {F : FP} (h : CellRel w Z c v F) (hz : ∀ b, Z b → Z' b) (hf : ∀ b, 1 ≤ F b → Z' b) : CellRel w Z' c.frz v fz := by
  match c, h with
  | .free, h => rfl
  | .sc u, h => exact ⟨h.1, rfl⟩
  | .sl false l, ⟨h0, A, cap, hv, hlc, hl⟩ =>
    refine ⟨rfl, A, cap, hv, hlc, fun hne => ?_⟩
    obtain ⟨ad, e, hZ, hi⟩ := hl hne
    exact ⟨ad, e, hz _ hZ, hi⟩
  | .sl true l, .inl ⟨h1, h2, h3⟩ => subst h2; exact ⟨rfl, none, 0, h1, Nat.le_refl _, fun h => absurd rfl h⟩
  | .sl true l, .inr ⟨b, cap, arr, ty, hv, hb, h1, h2, h3, hF⟩ =>
    refine ⟨rfl, _, cap, hv, h1, fun _ => ⟨⟨b, 0, none⟩, rfl, hf b (by rw [hF]; simp), fun j n hj => ?_⟩⟩
    rw [plain_add, Nat.zero_add, cell?_plain hb]
    exact h3 j n hj
theorem CellsRel.frz {w : World} {Z Z' : Zs} (hz : ∀ b, Z b → Z' b) : ∀ {cs : List Cell} {vs : List Value} {F : FP}, CellsRel w Z cs vs F → (∀ b, 1 ≤ F b → Z' b) → CellsRel w Z' (cs.map Cell.frz) vs fz
  | [], _, _, h, _ => rfl
  | c :: cs, v :: vs, F, ⟨F1, F2, h1, h2, hF⟩, hf => ⟨fz, fz, h1.frz hz (fun b hb => hf b (by rw [hF]; simp; omega)), CellsRel.frz hz h2 (fun b hb => hf b (by rw [hF]; simp; omega)), (fadd_fz _).symm⟩

/-! ### Rows -/
theorem recCells_length (o : Bool) (r : List Leaf) : ∀ (sg : List Bool) (f : Nat), (recCells o r f sg).length = sg.length
  | [], _ => rfl
  | true :: sg, f => by simp [recCells, recCells_length o r sg]
  | false :: sg, f => by simp [recCells, recCells_length o r sg]
theorem flatMap_length {α β : Type} (g : α → List β) (n : Nat) (h : ∀ x, (g x).length = n) : ∀ l : List α, (l.flatMap g).length = l.length * n
  | [] => by simp
  | x :: l => by simp [flatMap_length g n h l, h, Nat.succ_mul, Nat.add_comm]
theorem flatMap_get {α β : Type} (g : α → List β) (n : Nat) (h : ∀ x, (g x).length = n) : ∀ (l : List α) (i f : Nat), f < n → (l.flatMap g)[i * n + f]? = (l[i]?).bind (fun x => (g x)[f]?)
  | [], i, f, _ => by simp
  | x :: l, 0, f, hf => by simp [List.getElem?_append, h, hf]
  | x :: l, i + 1, f, hf => by
    have e : (i + 1) * n + f = n + (i * n + f) := by rw [Nat.succ_mul]; omega
    simp only [List.flatMap_cons, e]
    rw [List.getElem?_append_right (by rw [h]; omega), h, Nat.add_sub_cancel_left, flatMap_get g n h l i f hf]
    simp
theorem Row.cells_length (r : Row) : r.cells.length = r.len * r.size := by
  cases r <;> simp [Row.cells, Row.len, Row.size]
  rename_i sg o l
  have := flatMap_length (fun r => recCells o r 0 sg) sg.length (fun x => recCells_length ..) l
  simpa using this
theorem recCells_get (o : Bool) (r : List Leaf) : ∀ (sg : List Bool) (f j : Nat), (recCells o r f sg)[j]? = (sg[j]?).map fun b => if b then Cell.sl o (gl r (f + j)) else .sc (.int .i64 (gi r (f + j)))
  | [], f, j => by simp [recCells]
  | true :: sg, f, 0 => by simp [recCells]
  | false :: sg, f, 0 => by simp [recCells]
  | true :: sg, f, j + 1 => by simp only [recCells, List.getElem?_cons_succ, recCells_get o r sg]; congr 1; funext b; rw [show f + 1 + j = f + (j + 1) by omega]
  | false :: sg, f, j + 1 => by simp only [recCells, List.getElem?_cons_succ, recCells_get o r sg]; congr 1; funext b; rw [show f + 1 + j = f + (j + 1) by omega]
theorem recs_get (sg : List Bool) (o : Bool) (l : List (List Leaf)) (i f : Nat) (hf : f < sg.length) : (Row.recs sg o l).cells[i * sg.length + f]? = (l[i]?).bind fun r => (sg[f]?).map fun b => if b then Cell.sl o (gl r f) else .sc (.int .i64 (gi r f)) := by
  simp only [Row.cells]
  rw [flatMap_get (fun r => recCells o r 0 sg) sg.length (fun x => recCells_length ..) l i f hf]
  congr 1; funext r
  rw [recCells_get]; simp
theorem frz_cells (r : Row) : r.frz.cells = r.cells.map Cell.frz := by
  cases r <;> simp [Row.frz, Row.cells, Function.comp_def, Cell.frz]
  rename_i sg o l
  rw [List.map_flatMap]
  congr 1; funext r
  apply List.ext_getElem?
  intro j
  rw [List.getElem?_map, recCells_get, recCells_get]
  cases sg[j]? with
  | none => rfl
  | some b => cases b <;> simp [Cell.frz]
theorem frz_len (r : Row) : r.frz.len = r.len := by cases r <;> rfl
theorem frz_size (r : Row) : r.frz.size = r.size := by cases r <;> rfl
theorem take_size (r : Row) (n : Nat) : (r.take n).size = r.size := by cases r <;> rfl
theorem drop_size (r : Row) (n : Nat) : (r.drop n).size = r.size := by cases r <;> rfl
theorem take_len (r : Row) (n : Nat) : (r.take n).len = min n r.len := by cases r <;> simp [Row.take, Row.len]
theorem drop_len (r : Row) (n : Nat) : (r.drop n).len = r.len - n := by cases r <;> simp [Row.drop, Row.len]
theorem flatMap_take {α β : Type} (g : α → List β) (n : Nat) (h : ∀ x, (g x).length = n) : ∀ (l : List α) (k : Nat), (l.take k).flatMap g = (l.flatMap g).take (k * n)
  | [], k => by simp
  | x :: l, 0 => by simp
  | x :: l, k + 1 => by
    simp only [List.take_succ_cons, List.flatMap_cons, flatMap_take g n h l k]
    have e : (k + 1) * n = n + k * n := by rw [Nat.succ_mul]; omega
    rw [List.take_append, h, e, Nat.add_sub_cancel_left, List.take_of_length_le (l := g x) (by rw [h]; omega)]
theorem flatMap_drop {α β : Type} (g : α → List β) (n : Nat) (h : ∀ x, (g x).length = n) : ∀ (l : List α) (k : Nat), (l.drop k).flatMap g = (l.flatMap g).drop (k * n)
  | [], k => by simp
  | x :: l, 0 => by simp
  | x :: l, k + 1 => by
    simp only [List.drop_succ_cons, List.flatMap_cons, flatMap_drop g n h l k]
    have e : (k + 1) * n = n + k * n := by rw [Nat.succ_mul]; omega
    rw [List.drop_append, h, e, Nat.add_sub_cancel_left, List.drop_of_length_le (l := g x) (by rw [h]; omega), List.nil_append]
theorem take_cells (r : Row) (n : Nat) : (r.take n).cells = r.cells.take (n * r.size) := by
  cases r <;> simp [Row.take, Row.cells, Row.size, List.map_take]
  exact flatMap_take _ _ (fun x => recCells_length ..) _ _
theorem drop_cells (r : Row) (n : Nat) : (r.drop n).cells = r.cells.drop (n * r.size) := by
  cases r <;> simp [Row.drop, Row.cells, Row.size, List.map_drop]
  exact flatMap_drop _ _ (fun x => recCells_length ..) _ _
end Go.Proofs.Ytfkejiljabmaaaa.V
