/- MatchRound in plain Lean: the program's and the reference's answer alike. Conditions: enough rounds, lists of at most 2^20. -/
import Derived.Test.YtmdfedjdnjaaiaaGreatKit
import Derived.Test.YtmdfedjdnjaaiaaGreatXFnExactMatchRound
import Derived.Test.YtmdfedjdnjaaiaaGreatFFnExactMatchRound
import Derived.Test.YtmdfedjdnjaaiaaGreatPMatchRound
set_option linter.unusedVariables false
set_option linter.unusedSimpArgs false
namespace Go.Proofs.YtmdfedjdnjaaiaaGreat
open Go Go.Proofs.YtmdfedjdnjaaiaaGreat.V
set_option maxRecDepth 100000 in
theorem FnExactMatchRound.same {k : Nat} (hk : BIG ≤ k) (a0_0 : Int) (a0_1 : Int) (a0_2 : Bool) (a0_3 : Bool) (a0_4 : List Int) (a0_5 : List Int) (a0_6 : Int) (a0_7 : Int) (a1 : Int) (a2 : Int) (a3 : List Int) (h0 : wfI .i64 a0_0) (h1 : wfI .i64 a0_1) (h2 : a0_4.length < 1048577) (h3 : ∀ n ∈ a0_4, wfI .i64 n) (h4 : a0_5.length < 1048577) (h5 : ∀ n ∈ a0_5, wfI .i64 n) (h6 : wfI .i64 a0_6) (h7 : wfI .i64 a0_7) (h8 : wfI .i64 a1) (h9 : wfI .i64 a2) (h10 : a3.length < 1048577) (h11 : ∀ n ∈ a3, wfI .i64 n) : ∃ r : List Int, spec_MatchRound.f k a0_0 a0_1 a0_2 a0_3 a0_4 a0_5 a0_6 a0_7 a1 a2 a3 = some r ∧ impl_MatchRound.f k a0_0 a0_1 a0_2 a0_3 a0_4 a0_5 a0_6 a0_7 a1 a2 a3 = some r ∧ (r.length < 1048577) := by
  have hr : (⟨a0_0, a0_1, a0_2, a0_3, a0_4, a0_5, a0_6, a0_7⟩ : Rl).sm := ⟨h2, h4⟩
  have := matchRound_len ⟨a0_0, a0_1, a0_2, a0_3, a0_4, a0_5, a0_6, a0_7⟩ a1 a2 a3
  exact ⟨_, spec_MatchRound.eq hk hr a1 a2 a3, impl_MatchRound.eq hk hr a1 a2 a3, by omega⟩
end Go.Proofs.YtmdfedjdnjaaiaaGreat
