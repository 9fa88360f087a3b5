/- What is wrong with a table, in plain Lean. Conditions: enough rounds, lists of at most 2^20. -/
import Derived.Test.YtpdkglbbhfhlfaaGreatKit
import Derived.Test.YtpdkglbbhfhlfaaGreatFFnTop
import Derived.Test.YtpdkglbbhfhlfaaGreatPNothingLost
import Derived.Test.YtpdkglbbhfhlfaaGreatPTable
set_option linter.unusedVariables false
set_option linter.unusedSimpArgs false
namespace Go.Proofs.YtpdkglbbhfhlfaaGreat
open Go Go.Proofs.YtpdkglbbhfhlfaaGreat.V
def faultOf (t : Tb) : ByteArray := bif !nothingLost t then ⟨#[99, 97, 114, 100, 115]⟩ else bif !((t.rd.length : Int) == t.g.mv) then ⟨#[114, 101, 99, 111, 114, 100]⟩ else bif !isSheet t.r.n t.sheet then ⟨#[115, 104, 101, 101, 116]⟩ else bif !isTable t then ⟨#[116, 97, 98, 108, 101]⟩ else ByteArray.empty
theorem impl_FaultOf.eq {k : Nat} (hk : BIG ≤ k) {t : Tb} (h : t.sm) : t.ap (impl_FaultOf.f k) = some (faultOf t) := by
  unfold faultOf
  refine (bind_s (impl_NothingLost.eq hk h)).trans ?_
  cases nothingLost t with
  | false => rfl
  | true =>
    refine (bif_f rfl).trans ?_
    show (bif !((t.rd.length : Int) == t.g.mv) then _ else _) = _
    cases ((t.rd.length : Int) == t.g.mv) with
    | false => rfl
    | true =>
      refine (bif_f rfl).trans ((bind_s (bind_s (impl_IsSheet.eq hk t.r.n h.2.2.2.2.2.1 h.2.2.2.2.2.2))).trans ?_)
      cases isSheet t.r.n t.sheet with
      | false => rfl
      | true =>
        refine (bif_f rfl).trans ((bind_s (impl_IsTable.eq hk (Tb.sm_sm' h))).trans ?_)
        cases isTable t <;> rfl
end Go.Proofs.YtpdkglbbhfhlfaaGreat
