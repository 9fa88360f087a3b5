/- That the Go functions come to the answers of the plain ones. Printed by a program. -/
import Derived.Test.YtbblolalkpfapaaGreatT
import Derived.Test.YtbblolalkpfapaaGreatMFnExactMatchWinner
import Derived.Test.YtbblolalkpfapaaGreatMFnExactStepSeal
import Derived.Test.YtbblolalkpfapaaGreatMFnExactBranch
import Derived.Test.YtbblolalkpfapaaGreatFFnExactStepSettle
set_option linter.unusedVariables false
set_option maxRecDepth 100000
set_option maxHeartbeats 20000000
namespace Go.Proofs.YtbblolalkpfapaaGreat
open Go Go.Proofs.YtbblolalkpfapaaGreat.V Go.Proofs.YtbblolalkpfapaaGreat.M

namespace spec_IsEnded
def S : Sp := ⟨131, ⟨[40], [4], [.bor], .own⟩, [.agg .lent kd35], [.B]⟩
theorem con (k : Nat) : Con Tryz.prog S (f k) := con_fn (nt := 9) (live := []) (Λ := noL) tok (all_cons (ok_con (spec_IsGame.con k)) (all_cons (ok_con (spec_l24Over.con k)) all_nil)) mixed Tryz.func131 (by kernel_rfl) all_nil fun x => by kernel_rfl
end spec_IsEnded

namespace spec_StepSettle
def S : Sp := ⟨60, ⟨[42], [42, 4], [.bor], .own⟩, [.agg .lent kd37], [.agg .own kd37, .B]⟩
theorem con (k : Nat) : Con Tryz.prog S (f k) := con_fn (nt := 36) (live := []) (Λ := noL) tok (all_cons (ok_con (spec_l33Copy.con k)) (all_cons (ok_con (spec_l34Done.con k)) (all_cons (ok_con (spec_IsEnded.con k)) (all_cons (ok_con (spec_Settled.con k)) all_nil)))) mixed Tryz.func60 (by kernel_rfl) all_nil fun x => by kernel_rfl
end spec_StepSettle

namespace impl_StepSettle
def S : Sp := ⟨61, ⟨[42], [42, 4], [.bor], .own⟩, [.agg .lent kd37], [.agg .own kd37, .B]⟩
theorem con (k : Nat) : Con Tryz.prog S (f k) := con_fn (nt := 36) (live := []) (Λ := noL) tok (all_cons (ok_con (impl_IsEnded.con k)) (all_cons (ok_con (impl_Table_copied.con k)) (all_cons (ok_con (impl_Table_becomes.con k)) (all_cons (ok_con (impl_Settled.con k)) all_nil)))) mixed Tryz.func61 (by kernel_rfl) all_nil fun x => by kernel_rfl
end impl_StepSettle

namespace laws_FnExactStepSettle
def S : Sp := ⟨10, ⟨[37], [4], [.bor], .own⟩, [.agg .lent kd37], [.B]⟩
theorem con (k : Nat) : Con Tryz.prog S (f k) := con_fn (nt := 96) (live := []) (Λ := noL) tok (all_cons (ok_con (laws_szTable.con k)) (all_cons (ok_con (laws_toTable.con k)) (all_cons (ok_con (laws_eqTable.con k)) (all_cons (ok_con (laws_markTable.con k)) (all_cons (ok_con (laws_heldTable.con k)) (all_cons (ok_con (spec_StepSettle.con k)) (all_cons (ok_con (impl_StepSettle.con k)) all_nil))))))) mixed Tryz.func10 (by kernel_rfl) all_nil fun x => by kernel_rfl
end laws_FnExactStepSettle
end Go.Proofs.YtbblolalkpfapaaGreat
