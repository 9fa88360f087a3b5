/- Functions of Go's library, by the contracts that the kit's shelf proves of them. Conditions: as each says. -/
import Derived.Test.YtfkejiljabmaaaaVShape
import Derived.Lib.Join
import Derived.RowKit
set_option linter.unusedVariables false
set_option linter.unusedSimpArgs false
namespace Go.Proofs.Ytfkejiljabmaaaa.V
open Go

section
variable {P : Program} {f : FuncId}
theorem Frame.ofBelow {C : Cx} {w' : World} (h : Go.RowKit.Below C.w0.heap.size C.w0 w') : Frame C w' := ⟨h.size, h.os, h.tape, h.output, fun b hb _ => h.block b hb⟩
/-- A string comes back; the world below is as it was. -/
theorem ends_str {C : Cx} {g : Sig} {args : List Value} {s : ByteArray} {e : Ending} {w' : World} (hr : g.results.length = 1) (hio : noIO g.modes = true) (he : e = .returned (.string s)) (hb : Go.RowKit.Below C.w0.heap.size C.w0 w') : Ends C g args [.l (.s s)] e w' := by
  refine ⟨[.string s], fz, by rw [he]; rfl, by simpa using hr.symm, .ofBelow hb, fun b => by simp, fun b hb => by simp at hb, ?_⟩
  rw [ioVals_none _ _ hio, List.append_nil]
  exact ⟨fz, fz, ⟨rfl, rfl⟩, rfl, (fadd_fz _).symm⟩
def joinB (l : List ByteArray) (sep : ByteArray) : ByteArray := ⟨(Go.Lib.join (l.map (·.data.toList)) sep.data.toList).toArray⟩
theorem join_contract {t1 t2 t3 : Nat}
    (h : ∀ (bk o c : Nat) (xs : List ByteArray) (sep : ByteArray) (w : World), (∀ (j : Nat) x, xs[j]? = some x → w.cell? ⟨bk, o + j, none⟩ = some (.string x)) → bk < w.heap.size → xs.length ≤ 140737488355328 → xs.length ≤ c → (Go.Lib.join (xs.map (·.data.toList)) sep.data.toList).length ≤ 140737488355328 → Calls P f #[.slice (some ⟨bk, o, none⟩) xs.length c, .string sep] w fun e w' => e = .returned (.string ⟨(Go.Lib.join (xs.map (·.data.toList)) sep.data.toList).toArray⟩) ∧ Go.RowKit.Below w.heap.size w w')
    (h0 : ∀ (a : Option Addr) (c : Nat) (sep : ByteArray) (w : World), Calls P f #[.slice a 0 c, .string sep] w fun e w' => e = .returned (.string ⟨#[]⟩) ∧ w' = w)
    {l : List ByteArray} {sep : ByteArray} (hN : l.length ≤ 140737488355328) (hlen : (Go.Lib.join (l.map (·.data.toList)) sep.data.toList).length ≤ 140737488355328) :
    Contract P f ⟨[t1, t2], [t3], [.bor, .bor], .own⟩ [.l (.sl .lent (.strs l)), .l (.s sep)] [.l (.s (joinB l sep))] := by
  intro C args hargs h1 h2
  match args, hargs with
  | [v, u], ⟨F1, F2, ⟨hv, _⟩, ⟨F3, F4, ⟨hu, _⟩, _, _⟩, _⟩ =>
    have hu : u = .string sep := hu
    subst hu
    obtain ⟨A, cap, rfl, hcap, hne⟩ := hv
    have hcap : l.length ≤ cap := hcap
    show Calls P f #[.slice A l.length cap, .string sep] C.w0 _
    by_cases hl : l.length = 0
    · obtain rfl := List.eq_nil_of_length_eq_zero hl
      refine Calls.mono (h0 A cap sep C.w0) fun e w' ⟨he, hw⟩ => ?_
      subst hw
      exact ends_str rfl rfl (by rw [he]; rfl) (Go.RowKit.Below.refl _ _)
    · obtain ⟨ad, rfl, hz, vs, hj, hcs⟩ := hne hl
      have cell : ∀ (j : Nat) x, l[j]? = some x → C.w0.cell? (ad.add j) = some (.string x) := fun j x hx => by
        have hlt : j < l.length := (List.getElem?_eq_some_iff.1 hx).1
        have hcj : (Row.strs l).cells[j]? = some (.sc (.string x)) := by simp [Row.cells, hx]
        obtain ⟨v', G1, G2, m1, m2, _⟩ := hcs.get hcj
        have : v' = .string x := m2.1
        subst this
        rw [hj j (by simpa [Row.cells] using hlt)]
        exact m1
      obtain ⟨x0, hx0⟩ : ∃ x, l[0]? = some x := ⟨l[0]'(by omega), List.getElem?_eq_getElem _⟩
      have hc0 := cell 0 x0 hx0
      obtain ⟨bk, o, sp⟩ := ad
      have hsp : sp = none := by
        cases sp with
        | none => rfl
        | some n =>
          simp only [World.cell?, Addr.add] at hc0
          split at hc0
          · simp at hc0
          · cases hc0
      subst hsp
      have hbk : bk < C.w0.heap.size := by
        have := (C.good bk (.inl hz)).1
        exact this
      refine Calls.mono (h bk o cap l sep C.w0 (fun j x hx => (show C.w0.cell? ⟨bk, o + j, none⟩ = C.w0.cell? ((⟨bk, o, none⟩ : Addr).add j) by unfold Addr.add; cases j <;> rfl) ▸ cell j x hx) hbk hN hcap hlen) fun e w' ⟨he, hb⟩ => ?_
      exact ends_str rfl rfl he hb
end
end Go.Proofs.Ytfkejiljabmaaaa.V
