/- That the Go functions come to the answers of the plain ones. Printed by a program. -/
import Derived.Test.YtbblolalkpfapaaGreatT
import Derived.Test.YtbblolalkpfapaaGreatMFnExactStepSeal
import Derived.Test.YtbblolalkpfapaaGreatMFnExactStepTake
import Derived.Test.YtbblolalkpfapaaGreatMFnExactMatchWinner
import Derived.Test.YtbblolalkpfapaaGreatMFnExactBranch
import Derived.Test.YtbblolalkpfapaaGreatFFnExactStepPlay
set_option linter.unusedVariables false
set_option maxRecDepth 100000
set_option maxHeartbeats 20000000
namespace Go.Proofs.YtbblolalkpfapaaGreat
open Go Go.Proofs.YtbblolalkpfapaaGreat.V Go.Proofs.YtbblolalkpfapaaGreat.M

namespace spec_StepPlay
def S : Sp := ⟨31, ⟨[42, 3], [42, 4], [.bor, .bor], .own⟩, [.agg .lent kd37, .I], [.agg .own kd37, .B]⟩
theorem con (k : Nat) : Con Tryz.prog S (f k) := con_fn (nt := 16) (live := []) (Λ := noL) tok (all_cons (ok_con (spec_l33Copy.con k)) (all_cons (ok_con (spec_l34Move.con k)) (all_cons (ok_con (spec_IsCard.con k)) all_nil))) mixed Tryz.func31 (by kernel_rfl) all_nil fun x => by kernel_rfl
end spec_StepPlay

namespace impl_StepPlay
def S : Sp := ⟨32, ⟨[42, 3], [42, 4], [.bor, .bor], .own⟩, [.agg .lent kd37, .I], [.agg .own kd37, .B]⟩
theorem con (k : Nat) : Con Tryz.prog S (f k) := con_fn (nt := 16) (live := []) (Λ := noL) tok (all_cons (ok_con (impl_Table_copied.con k)) (all_cons (ok_con (impl_stepMove.con k)) (all_cons (ok_con (impl_IsCard.con k)) all_nil))) mixed Tryz.func32 (by kernel_rfl) all_nil fun x => by kernel_rfl
end impl_StepPlay

namespace laws_FnExactStepPlay
def S : Sp := ⟨6, ⟨[37, 3], [4], [.bor, .bor], .own⟩, [.agg .lent kd37, .I], [.B]⟩
theorem con (k : Nat) : Con Tryz.prog S (f k) := con_fn (nt := 101) (live := []) (Λ := noL) tok (all_cons (ok_con (laws_szTable.con k)) (all_cons (ok_con (laws_toTable.con k)) (all_cons (ok_con (laws_eqTable.con k)) (all_cons (ok_con (laws_markTable.con k)) (all_cons (ok_con (laws_heldTable.con k)) (all_cons (ok_con (spec_StepPlay.con k)) (all_cons (ok_con (impl_StepPlay.con k)) all_nil))))))) mixed Tryz.func6 (by kernel_rfl) all_nil fun x => by kernel_rfl
end laws_FnExactStepPlay
end Go.Proofs.YtbblolalkpfapaaGreat
