/- The game after some moves, in plain Lean. Conditions: enough rounds, lists of at most 2^20. -/
import Derived.Test.YtpdkglbbhfhlfaaGreatKit
import Derived.Test.YtpdkglbbhfhlfaaGreatFFnAgain
import Derived.Test.YtpdkglbbhfhlfaaGreatPTable
set_option linter.unusedVariables false
set_option linter.unusedSimpArgs false
namespace Go.Proofs.YtpdkglbbhfhlfaaGreat
open Go Go.Proofs.YtpdkglbbhfhlfaaGreat.V
def gameAt (t : Tb) (n : Int) : Gm × Bool := bif isTable t && t.on && inR n 0 (t.rd.length : Int) then ((replayed (t.rd.take n.toNat) 0 (newGame t.r t.deck).1).1, true) else (zeroG, false)
theorem gameAt_sm {t : Tb} (h : t.sm') (n : Int) : (gameAt t n).1.sm := by
  unfold gameAt
  cases (isTable t && t.on && inR n 0 (t.rd.length : Int)) with
  | true => exact replayed_sm _ 0 (newGame_sm h.1 t.deck)
  | false => exact zeroG_sm
theorem impl_GameAt.eq {k : Nat} (hk : BIG ≤ k) {t : Tb} (h : t.sm') (n : Int) : t.ap (impl_GameAt.f k) n = some ((gameAt t n).1.tpb (gameAt t n).2) := by
  refine (bind_s (impl_IsTable.eq hk h)).trans ?_
  obtain ⟨h1, h2, h3, h4, h5, h6⟩ := h
  unfold gameAt
  cases isTable t with
  | false => rfl
  | true =>
    refine (bif_f rfl).trans ?_
    cases t.on with
    | false => rfl
    | true =>
      refine (bif_f rfl).trans ((bind_s (impl_InRange.eq ..)).trans ?_)
      cases hn : inR n 0 (t.rd.length : Int) with
      | false => rfl
      | true =>
        have hn' := inR_iff.1 hn
        exact (bif_f rfl).trans ((bind_s (impl_NewGame.eq hk h1 h2)).trans ((chk_t (and_t (dec_t hn'.1) (dec_t hn'.2))).trans ((bind_s (impl_Replayed.eq hk (by rw [List.length_take]; omega) (newGame_sm h1 t.deck))).trans rfl)))
end Go.Proofs.YtpdkglbbhfhlfaaGreat
