/- That the Go functions come to the answers of the plain ones. Printed by a program. -/
import Derived.Test.YtbblolalkpfapaaGreatT
import Derived.Test.YtbblolalkpfapaaGreatMFnExactStepSeal
import Derived.Test.YtbblolalkpfapaaGreatMFnExactBranch
import Derived.Test.YtbblolalkpfapaaGreatMFnExactMatchWinner
import Derived.Test.YtbblolalkpfapaaGreatFFnExactStepTake
set_option linter.unusedVariables false
set_option maxRecDepth 100000
set_option maxHeartbeats 20000000
namespace Go.Proofs.YtbblolalkpfapaaGreat
open Go Go.Proofs.YtbblolalkpfapaaGreat.V Go.Proofs.YtbblolalkpfapaaGreat.M

namespace spec_l34Move
def S : Sp := ⟨104, ⟨[42, 3], [42, 4], [.bor, .bor], .own⟩, [.agg .lent kd37, .I], [.agg .own kd37, .B]⟩
theorem con (k : Nat) : Con Tryz.prog S (f k) := con_fn (nt := 36) (live := []) (Λ := noL) tok (all_cons (ok_con (spec_l33Copy.con k)) (all_cons (ok_con (spec_l34Done.con k)) (all_cons (ok_con (spec_ReplayMove.con k)) all_nil))) mixed Tryz.func104 (by kernel_rfl) all_nil fun x => by kernel_rfl
end spec_l34Move

namespace spec_StepTake
def S : Sp := ⟨29, ⟨[42], [42, 4], [.bor], .own⟩, [.agg .lent kd37], [.agg .own kd37, .B]⟩
theorem con (k : Nat) : Con Tryz.prog S (f k) := con_fn (nt := 8) (live := []) (Λ := noL) tok (all_cons (ok_con (spec_l34Move.con k)) all_nil) mixed Tryz.func29 (by kernel_rfl) all_nil fun x => by kernel_rfl
end spec_StepTake

namespace impl_stepMove
def S : Sp := ⟨105, ⟨[42, 3], [42, 4], [.bor, .bor], .own⟩, [.agg .lent kd37, .I], [.agg .own kd37, .B]⟩
theorem con (k : Nat) : Con Tryz.prog S (f k) := con_fn (nt := 36) (live := []) (Λ := noL) tok (all_cons (ok_con (impl_Table_copied.con k)) (all_cons (ok_con (impl_Table_becomes.con k)) (all_cons (ok_con (impl_ReplayMove.con k)) all_nil))) mixed Tryz.func105 (by kernel_rfl) all_nil fun x => by kernel_rfl
end impl_stepMove

namespace impl_StepTake
def S : Sp := ⟨30, ⟨[42], [42, 4], [.bor], .own⟩, [.agg .lent kd37], [.agg .own kd37, .B]⟩
theorem con (k : Nat) : Con Tryz.prog S (f k) := con_fn (nt := 8) (live := []) (Λ := noL) tok (all_cons (ok_con (impl_stepMove.con k)) all_nil) mixed Tryz.func30 (by kernel_rfl) all_nil fun x => by kernel_rfl
end impl_StepTake

namespace laws_FnExactStepTake
def S : Sp := ⟨5, ⟨[37], [4], [.bor], .own⟩, [.agg .lent kd37], [.B]⟩
theorem con (k : Nat) : Con Tryz.prog S (f k) := con_fn (nt := 96) (live := []) (Λ := noL) tok (all_cons (ok_con (laws_szTable.con k)) (all_cons (ok_con (laws_toTable.con k)) (all_cons (ok_con (laws_eqTable.con k)) (all_cons (ok_con (laws_markTable.con k)) (all_cons (ok_con (laws_heldTable.con k)) (all_cons (ok_con (spec_StepTake.con k)) (all_cons (ok_con (impl_StepTake.con k)) all_nil))))))) mixed Tryz.func5 (by kernel_rfl) all_nil fun x => by kernel_rfl
end laws_FnExactStepTake
end Go.Proofs.YtbblolalkpfapaaGreat
