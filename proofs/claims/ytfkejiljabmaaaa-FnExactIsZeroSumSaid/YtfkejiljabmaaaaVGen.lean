/- What the printed texts lean on: tables of functions, of loops, of types. Conditions: none. -/
import Derived.Test.YtfkejiljabmaaaaVTell
set_option linter.unusedVariables false
namespace Go.Proofs.Ytfkejiljabmaaaa.V
open Go

theorem all_nil {α : Type} {Q : α → Prop} : ∀ p ∈ ([] : List α), Q p := fun _ h => by cases h
theorem all_cons {α : Type} {Q : α → Prop} {a : α} {l : List α} (h : Q a) (t : ∀ p ∈ l, Q p) : ∀ p ∈ a :: l, Q p := fun p hp => by
  rcases List.mem_cons.1 hp with rfl | hp
  · exact h
  · exact t p hp
theorem look_mem {α : Type} : ∀ {l : List (Nat × α)} {i : Nat} {x : α}, look l i = some x → (i, x) ∈ l
  | (j, y) :: l, i, x, h => by
    simp only [look] at h
    cases e : j == i with
    | true => rw [e] at h; simp at h; subst h; have := eq_of_beq e; subst this; simp
    | false => rw [e] at h; exact List.mem_cons_of_mem _ (look_mem h)
structure Ent (R : Type) where
  sig : Sig
  phi : List DV → (List DV → Option R) → Option R
def mkG {R : Type} (tt : TT) (l : List (Nat × Ent R)) (nt : Nat) : Glob R :=
  ⟨tt, fun f ds K => match look l f with | some e => e.phi ds K | none => none, fun f => match look l f with | some e => some e.sig | none => none, nt⟩
def EntOK {R : Type} (P : Program) (p : Nat × Ent R) : Prop := ∀ (ds : List DV) (K : List DV → Option R) (r : R), p.2.phi ds K = some r → Enters P p.1 ∧ ∃ rs, Contract P p.1 p.2.sig ds rs ∧ K rs = some r
theorem GOK_of {R : Type} {P : Program} {tt : TT} {l : List (Nat × Ent R)} {nt : Nat} (T : TOK P tt) (h : ∀ p ∈ l, EntOK P p) : GOK P (mkG tt l nt) := by
  refine ⟨T, fun f g ds K r hs hk => ?_⟩
  simp only [mkG] at hs hk
  split at hk
  · rename_i e he
    simp only [he] at hs
    cases hs
    exact h _ (look_mem he) ds K r hk
  · cases hk

/-! ### Loops -/
def loopsOf : Code → List Code
  | .loop b => b :: loopsOf b
  | .seq a b => loopsOf a ++ loopsOf b
  | .cond _ a b => loopsOf a ++ loopsOf b
  | .block _ b => loopsOf b
  | _ => []
theorem LoopsOK_all {R : Type} {G : Glob R} {live : List (Nat × List Nat)} {Λ : LTab R} : ∀ (c : Code), (∀ b ∈ loopsOf c, ∀ K vs hs r, Λ (keyOf b) K vs hs = some r → LoopFit G live Λ b K vs hs r) → LoopsOK G live Λ c := by
  intro c
  induction c with
  | loop b ih => intro h; exact ⟨h b (by simp [loopsOf]), ih fun b' hb => h b' (by simp [loopsOf, hb])⟩
  | seq a b iha ihb => intro h; exact ⟨iha fun b' hb => h b' (by simp [loopsOf, hb]), ihb fun b' hb => h b' (by simp [loopsOf, hb])⟩
  | cond x a b iha ihb => intro h; exact ⟨iha fun b' hb => h b' (by simp [loopsOf, hb]), ihb fun b' hb => h b' (by simp [loopsOf, hb])⟩
  | block i b ih => intro h; exact ih fun b' hb => h b' (by simp [loopsOf, hb])
  | _ => intro _; exact trivial
theorem LoopsOK_of {R : Type} {G : Glob R} {live : List (Nat × List Nat)} {Λ : LTab R} {c : Code} {ls : List Code} (e : loopsOf c = ls) (h : ∀ b ∈ ls, ∀ K vs hs r, Λ (keyOf b) K vs hs = some r → LoopFit G live Λ b K vs hs r) : LoopsOK G live Λ c :=
  LoopsOK_all c (by rw [e]; exact h)

/-! ### Types -/
theorem TOK_of {P : Program} {l : List (Nat × TE)} (h : ∀ p ∈ l, TFact P (look l) p.1 p.2) : TOK P (look l) := fun t e he => h _ (look_mem he)
theorem info_ok {P : Program} {t s b : Nat} {zs : List Value} (h1 : (P.info? t).map (fun i => (i.size, i.bytes)) = some (s, b)) (h2 : ((P.info? t).bind (fun i => i.zero)).map (fun z => z.cells.toList) = some zs) : ∃ i, P.info? t = some i ∧ i.size = s ∧ i.bytes = b ∧ ∃ z, i.zero = some z ∧ z.cells.toList = zs := by
  cases hi : P.info? t with
  | none => rw [hi] at h1; cases h1
  | some i =>
    rw [hi] at h1 h2
    simp only [Option.map_some, Option.some.injEq, Prod.mk.injEq] at h1
    simp only [Option.bind_some] at h2
    cases hz : i.zero with
    | none => rw [hz] at h2; cases h2
    | some z =>
      rw [hz] at h2
      simp only [Option.map_some, Option.some.injEq] at h2
      exact ⟨i, rfl, h1.1, h1.2, z, hz, h2⟩
theorem fields_ok {P : Program} {fields : Array Field} (h : (fields.toList.all fun f => match P.info? f.type with | some i => !(i.size == 0) | none => false) = true) : ∀ f ∈ fields.toList, ∃ i, P.info? f.type = some i ∧ i.size ≠ 0 := fun f hf => by
  have := List.all_eq_true.1 h f hf
  split at this
  · rename_i i hi; exact ⟨i, hi, by simpa using this⟩
  · cases this
end Go.Proofs.Ytfkejiljabmaaaa.V
