/- Steps of the plain functions that a program printed. Conditions: none. -/
import Derived.Test.YtfkejiljabmaaaaVArg
import Derived.WalkKit
set_option linter.unusedVariables false
namespace Go.Proofs.Ytfkejiljabmaaaa.V
open Go

/-- More rounds than any loop needs. -/
abbrev BIG : Nat := 1073741824
theorem chk_t {R : Type} {c : Bool} {x : Option R} (h : c = true) : chk c x = x := by subst h; rfl
theorem bif_t {R : Type} {c : Bool} {x y : R} (h : c = true) : (bif c then x else y) = x := by subst h; rfl
theorem bif_f {R : Type} {c : Bool} {x y : R} (h : c = false) : (bif c then x else y) = y := by subst h; rfl
theorem bind_s {A B : Type} {x : Option A} {a : A} {F : A → Option B} (h : x = some a) : x.bind F = F a := by subst h; rfl
theorem and_t {a b : Bool} (h : a = true) (h' : b = true) : (a && b) = true := by subst h; subst h'; rfl
theorem dec_t {p : Prop} [d : Decidable p] (h : p) : decide p = true := decide_eq_true h
theorem dec_f {p : Prop} [d : Decidable p] (h : ¬ p) : decide p = false := decide_eq_false h
theorem wrap_i64 {n : Int} (h1 : -9223372036854775808 ≤ n) (h2 : n ≤ 9223372036854775807) : IntKind.wrap .i64 n = n := Go.IntWalk.i64_in n ⟨h1, h2⟩
theorem wrap_up {i : Nat} (h : i < 4611686018427387904) : IntKind.wrap .i64 ((i : Int) + 1) = ((i + 1 : Nat) : Int) := by
  rw [wrap_i64 (by omega) (by omega)]; omega
theorem in_t {i n : Nat} (h : i < n) : (decide ((0 : Int) ≤ (i : Int)) && decide ((i : Int) < (n : Int))) = true := and_t (dec_t (by omega)) (dec_t (by omega))
theorem getD_lt {α : Type} {l : List α} {i : Nat} (d : α) (h : i < l.length) : l.getD i d = l[i] := by simp [List.getD_eq_getElem?_getD, h]
theorem drop_cons {α : Type} {l : List α} {i : Nat} (h : i < l.length) : l.drop i = l[i] :: l.drop (i + 1) := by rw [List.drop_eq_getElem_cons h]
theorem copy_step {α : Type} {l : List α} {i m : Nat} {d : α} (h : i < l.length) : (l.take i ++ List.replicate (m + 1) d).set i l[i] = l.take (i + 1) ++ List.replicate m d := by
  have e : l.take (i + 1) = l.take i ++ [l[i]] := List.take_succ_eq_append_getElem h
  rw [e, List.set_append]
  simp only [List.length_take, show min i l.length = i by omega, Nat.lt_irrefl, if_false, Nat.sub_self, List.replicate_succ, List.set_cons_zero, List.append_assoc, List.singleton_append]
theorem copy_len {α : Type} {l : List α} {i m : Nat} {d : α} (h : i + m = l.length) : (l.take i ++ List.replicate m d).length = l.length := by simp; omega
end Go.Proofs.Ytfkejiljabmaaaa.V
