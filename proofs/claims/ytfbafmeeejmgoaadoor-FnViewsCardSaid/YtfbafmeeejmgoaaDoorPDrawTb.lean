/- Drawn tables of any kind, in plain Lean: how long their lists are. Conditions: enough rounds, a code of at most 2^20 bytes. -/
import Derived.Test.YtfbafmeeejmgoaaDoorKit
import Derived.Test.YtfbafmeeejmgoaaDoorFFnViews
import Derived.Test.YtfbafmeeejmgoaaDoorPDrawGame
import Derived.Test.YtfbafmeeejmgoaaDoorPDrawSheet
import Derived.Test.YtfbafmeeejmgoaaDoorPCopies
set_option linter.unusedVariables false
set_option linter.unusedSimpArgs false
namespace Go.Proofs.YtfbafmeeejmgoaaDoor
open Go Go.Proofs.YtfbafmeeejmgoaaDoor.V
abbrev T30 := Int × Int × Bool × Bool × LI × LI × Int × Int × LI × Bool × LI × Int × Int × Bool × Bool × LI × LI × Int × Int × LL × LI × LI × Int × Int × Int × LI × LL × LI × Int × Int
/-- A table with short lists of seals, moves and rounds, and a cursor behind it. -/
def shortT (b : List Int) (r : T30) : Prop := (t8 r).1.length ≤ 52 ∧ (t9 (t9 (t7 r))).1.length ≤ 52 ∧ (t9 (t9 (t8 r))).1.length ≤ 52
theorem spec_NewTable.drawn {k : Nat} (hk : BIG ≤ k) {r : Rl} (h : r.sm) (ho : r.ok = true) : r.ap (spec_NewTable.f k) = some (r.n, r.e, r.b1, r.b2, r.w, r.f, r.t, r.l, [], false, [], 0, 0, false, false, [], [], 0, 0, [], [], [], 0, 0, 0, [], [], true) := by
  refine (bind_s (spec_rl hk h)).trans ?_
  rw [ho]
  exact (bif_f rfl).trans (bind_s (spec_l22Copy.eq k h))
theorem spec_l33Any.ok {k : Nat} (hk : BIG ≤ k) {b : List Int} {i : Int} (h : Int) (hc : Cur b i) : ∃ r, spec_l33Any.f k b i h = some r ∧ shortT b r := by
  obtain ⟨r, i1, h1, e1, c1, ro, rw_, rf⟩ := spec_l22Draw.ok hk h hc
  have rs : r.sm := ⟨by show r.w.length < _; omega, by show r.f.length < _; omega⟩
  have e2 := spec_NewTable.drawn hk rs ro
  obtain ⟨x, i3, h3, e3, c3, p1, p2, _⟩ := spec_l1Below.ok k h1 12 c1
  have pre : ∀ {X}, _ = X → spec_l33Any.f k b i h = X := fun {X} hX => (bind_s e1).trans ((bind_s e2).trans ((bind_s e3).trans hX))
  have n0 : ([] : List Int).length ≤ 52 := by simp
  have m0 : ([] : List (List Int)).length ≤ 52 := by simp
  cases x0 : (x == 0) with
  | true =>
    obtain ⟨u, i4, h4, e4, c4, _⟩ := spec_l22Any.ok hk h3 c3
    exact ⟨_, pre ((bif_t x0).trans (bind_s e4)), n0, n0, m0⟩
  | false =>
    cases x1 : (x == 1) with
    | true =>
      obtain ⟨u, i4, h4, e4, c4, q1, q2, _⟩ := spec_l1Below.ok k h3 6 c3
      have q2 := q2 (by omega)
      have ew : IntKind.wrap .i64 (1 + u) = 1 + u := wrap_i64 (by omega) (by omega)
      have a1 : (0 : Int) ≤ IntKind.wrap .i64 (1 + u) := by rw [ew]; omega
      have a2 : (IntKind.wrap .i64 (1 + u)).toNat ≤ 17592186044416 := by rw [ew]; omega
      exact ⟨_, pre ((bif_f x0).trans ((bif_t x1).trans ((bind_s e4).trans (chk_t (and_t (dec_t a1) (rm8 a2)))))), by show (List.replicate _ (0 : Int)).length ≤ 52; rw [List.length_replicate, ew]; omega, n0, m0⟩
    | false =>
      cases x2 : (x == 2) with
      | true =>
        obtain ⟨u, i4, h4, e4, c4, _⟩ := spec_l15Round.ok hk h3 c3 (p := r.n) (by have := (rl_ok ro).1; omega)
        exact ⟨_, pre ((bif_f x0).trans ((bif_f x1).trans ((bif_t x2).trans (bind_s e4)))), n0, n0, by show [u].length ≤ 52; simp⟩
      | false =>
        cases x3 : (x == 3) with
        | true => exact ⟨_, pre ((bif_f x0).trans ((bif_f x1).trans ((bif_f x2).trans (bif_t x3)))), n0, n0, by show [_].length ≤ 52; simp⟩
        | false =>
          cases x4 : (x == 4) with
          | true => exact ⟨_, pre ((bif_f x0).trans ((bif_f x1).trans ((bif_f x2).trans ((bif_f x3).trans (bif_t x4))))), n0, n0, m0⟩
          | false =>
            cases x5 : (x == 5) with
            | true => exact ⟨_, pre ((bif_f x0).trans ((bif_f x1).trans ((bif_f x2).trans ((bif_f x3).trans ((bif_f x4).trans (bif_t x5)))))), n0, by show [_].length ≤ 52; simp, m0⟩
            | false =>
              cases x6 : (x == 6) with
              | true => exact ⟨_, pre ((bif_f x0).trans ((bif_f x1).trans ((bif_f x2).trans ((bif_f x3).trans ((bif_f x4).trans ((bif_f x5).trans ((bif_t x6).trans (bind_s (spec_FullDeck.eq hk))))))))), n0, n0, m0⟩
              | false => exact ⟨_, pre ((bif_f x0).trans ((bif_f x1).trans ((bif_f x2).trans ((bif_f x3).trans ((bif_f x4).trans ((bif_f x5).trans (bif_f x6))))))), n0, n0, m0⟩
end Go.Proofs.YtfbafmeeejmgoaaDoor
