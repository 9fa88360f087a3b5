/- Steps of the plain functions that a program printed. Conditions: none. -/
import Derived.Test.YtfkejiljabmaaaaVArg
import Derived.WalkKit
set_option linter.unusedVariables false
namespace Go.Proofs.Ytfkejiljabmaaaa.V
open Go

/-- More rounds than any loop needs. -/
abbrev BIG : Nat := 1073741824
theorem chk_t {R : Type} {c : Bool} {x : Option R} (h : c = true) : chk c x = x := by subst h; rfl
theorem bif_t {R : Type} {c : Bool} {x y : R} (h : c = true) : (bif c then x else y) = x := by subst h; rfl
theorem bif_f {R : Type} {c : Bool} {x y : R} (h : c = false) : (bif c then x else y) = y := by subst h; rfl
theorem bind_s {A B : Type} {x : Option A} {a : A} {F : A → Option B} (h : x = some a) : x.bind F = F a := by subst h; rfl
theorem and_t {a b : Bool} (h : a = true) (h' : b = true) : (a && b) = true := by subst h; subst h'; rfl
theorem dec_t {p : Prop} [d : Decidable p] (h : p) : decide p = true := decide_eq_true h
theorem dec_f {p : Prop} [d : Decidable p] (h : ¬ p) : decide p = false := decide_eq_false h
theorem wrap_i64 {n : Int} (h1 : -9223372036854775808 ≤ n) (h2 : n ≤ 9223372036854775807) : IntKind.wrap .i64 n = n := Go.IntWalk.i64_in n ⟨h1, h2⟩
theorem wrap_up {i : Nat} (h : i < 4611686018427387904) : IntKind.wrap .i64 ((i : Int) + 1) = ((i + 1 : Nat) : Int) := by
  rw [wrap_i64 (by omega) (by omega)]; omega
theorem in_t {i n : Nat} (h : i < n) : (decide ((0 : Int) ≤ (i : Int)) && decide ((i : Int) < (n : Int))) = true := and_t (dec_t (by omega)) (dec_t (by omega))
theorem getD_lt {α : Type} {l : List α} {i : Nat} (d : α) (h : i < l.length) : l.getD i d = l[i] := by simp [List.getD_eq_getElem?_getD, h]
theorem drop_cons {α : Type} {l : List α} {i : Nat} (h : i < l.length) : l.drop i = l[i] :: l.drop (i + 1) := by rw [List.drop_eq_getElem_cons h]
theorem copy_step {α : Type} {l : List α} {i m : Nat} {d : α} (h : i < l.length) : (l.take i ++ List.replicate (m + 1) d).set i l[i] = l.take (i + 1) ++ List.replicate m d := by
  have e : l.take (i + 1) = l.take i ++ [l[i]] := List.take_succ_eq_append_getElem h
  rw [e, List.set_append]
  simp only [List.length_take, show min i l.length = i by omega, Nat.lt_irrefl, if_false, Nat.sub_self, List.replicate_succ, List.set_cons_zero, List.append_assoc, List.singleton_append]
theorem copy_len {α : Type} {l : List α} {i m : Nat} {d : α} (h : i + m = l.length) : (l.take i ++ List.replicate m d).length = l.length := by simp; omega
/-- Are all slices of a record short. -/
def smRec (r : List Leaf) : Prop := ∀ l ∈ r, match l with | .ints v => v.length < 1048577 | _ => True
theorem smRec_nil : smRec [] := fun _ h => by cases h
theorem smRec_cons {l : Leaf} {r : List Leaf} (h : match l with | .ints v => v.length < 1048577 | _ => True) (t : smRec r) : smRec (l :: r) := fun x hx => by
  rcases List.mem_cons.1 hx with rfl | hx
  · exact h
  · exact t x hx
theorem smRec_gl {r : List Leaf} (h : smRec r) (j : Nat) : (gl r j).length < 1048577 := by
  unfold gl
  split
  · rename_i l hl; exact h _ (List.mem_of_getElem? hl)
  · simp
theorem recWf_int {sg : List Bool} {r : List Leaf} (h : recWf (false :: sg) r) : ∃ n r', r = .int n :: r' ∧ wfI .i64 n ∧ recWf sg r' := by
  cases r with
  | nil => exact h.elim
  | cons l r => cases l with
    | int n => exact ⟨n, r, rfl, h.1, h.2⟩
    | ints l => exact h.1.elim
theorem recWf_ints {sg : List Bool} {r : List Leaf} (h : recWf (true :: sg) r) : ∃ v r', r = .ints v :: r' ∧ (v.length ≤ maxLen ∧ ∀ n ∈ v, wfI .i64 n) ∧ recWf sg r' := by
  cases r with
  | nil => exact h.elim
  | cons l r => cases l with
    | int n => exact h.1.elim
    | ints l => exact ⟨l, r, rfl, h.1, h.2⟩
theorem recWf_nil {r : List Leaf} (h : recWf [] r) : r = [] := by
  cases r with
  | nil => rfl
  | cons l r => exact h.elim
theorem recWf_gl : ∀ {sg : List Bool} {r : List Leaf}, recWf sg r → ∀ {j : Nat}, sg[j]? = some true → (gl r j).length ≤ maxLen
  | true :: sg, r, h, 0, _ => by obtain ⟨v, r', rfl, h1, _⟩ := recWf_ints h; exact h1.1
  | true :: sg, r, h, j + 1, e => by obtain ⟨v, r', rfl, _, h2⟩ := recWf_ints h; exact recWf_gl (sg := sg) h2 (j := j) (by simpa using e)
  | false :: sg, r, h, j + 1, e => by obtain ⟨v, r', rfl, _, h2⟩ := recWf_int h; exact recWf_gl (sg := sg) h2 (j := j) (by simpa using e)
end Go.Proofs.Ytfkejiljabmaaaa.V
