/- That the Go functions come to the answers of the plain ones. Printed by a program. -/
import Derived.Test.YtbblolalkpfapaaGreatT
import Derived.Test.YtbblolalkpfapaaGreatMFnExactMatchWinner
import Derived.Test.YtbblolalkpfapaaGreatMFnExactBranch
import Derived.Test.YtbblolalkpfapaaGreatFFnExactStepSeal
set_option linter.unusedVariables false
set_option maxRecDepth 100000
set_option maxHeartbeats 20000000
namespace Go.Proofs.YtbblolalkpfapaaGreat
open Go Go.Proofs.YtbblolalkpfapaaGreat.V Go.Proofs.YtbblolalkpfapaaGreat.M

namespace spec_l33Copy
def S : Sp := ⟨92, ⟨[42], [42], [.bor], .own⟩, [.agg .lent kd37], [.agg .own kd37]⟩
theorem con (k : Nat) : Con Tryz.prog S (f k) := con_fn (nt := 27) (live := []) (Λ := noL) tok (all_cons (ok_con (spec_l22Copy.con k)) (all_cons (ok_con (spec_l24Copy.con k)) (all_cons (ok_con (spec_l15Copy.con k)) all_nil))) mixed Tryz.func92 (by kernel_rfl) all_nil fun x => by kernel_rfl
end spec_l33Copy

namespace spec_l34Done
def S : Sp := ⟨93, ⟨[42, 42, 4], [42, 4], [.bor, .mov, .bor], .own⟩, [.agg .lent kd37, .agg .own kd37, .l .lent .bool], [.agg .own kd37, .B]⟩
theorem con (k : Nat) : Con Tryz.prog S (f k) := con_fn (nt := 23) (live := []) (Λ := noL) tok (all_cons (ok_con (spec_l33Copy.con k)) (all_cons (ok_con (spec_IsTable.con k)) all_nil)) mixed Tryz.func93 (by kernel_rfl) all_nil fun x => by kernel_rfl
end spec_l34Done

namespace spec_StepSeal
def S : Sp := ⟨23, ⟨[42, 3], [42, 4], [.bor, .bor], .own⟩, [.agg .lent kd37, .I], [.agg .own kd37, .B]⟩
theorem con (k : Nat) : Con Tryz.prog S (f k) := con_fn (nt := 23) (live := []) (Λ := noL) tok (all_cons (ok_con (spec_l33Copy.con k)) (all_cons (ok_con (spec_l34Done.con k)) all_nil)) mixed Tryz.func23 (by kernel_rfl) all_nil fun x => by kernel_rfl
end spec_StepSeal

namespace impl_Table_copied
def S : Sp := ⟨96, ⟨[42], [42], [.bor], .own⟩, [.agg .lent kd37], [.agg .own kd37]⟩
theorem con (k : Nat) : Con Tryz.prog S (f k) := con_fn (nt := 24) (live := []) (Λ := noL) tok (all_cons (ok_con (impl_copyRows.con k)) (all_cons (ok_con (impl_copyOf.con k)) (all_cons (ok_con (impl_Rules_copied.con k)) (all_cons (ok_con (impl_Game_copied.con k)) all_nil)))) mixed Tryz.func96 (by kernel_rfl) all_nil fun x => by kernel_rfl
end impl_Table_copied

namespace impl_Table_becomes
def S : Sp := ⟨97, ⟨[42, 42, 4], [42, 4], [.bor, .mov, .bor], .own⟩, [.agg .lent kd37, .agg .own kd37, .l .lent .bool], [.agg .own kd37, .B]⟩
theorem con (k : Nat) : Con Tryz.prog S (f k) := con_fn (nt := 23) (live := []) (Λ := noL) tok (all_cons (ok_con (impl_IsTable.con k)) (all_cons (ok_con (impl_Table_copied.con k)) all_nil)) mixed Tryz.func97 (by kernel_rfl) all_nil fun x => by kernel_rfl
end impl_Table_becomes

namespace impl_StepSeal
def S : Sp := ⟨25, ⟨[42, 3], [42, 4], [.bor, .bor], .own⟩, [.agg .lent kd37, .I], [.agg .own kd37, .B]⟩
theorem con (k : Nat) : Con Tryz.prog S (f k) := con_fn (nt := 32) (live := []) (Λ := noL) tok (all_cons (ok_con (impl_Table_copied.con k)) (all_cons (ok_con (impl_Table_becomes.con k)) all_nil)) mixed Tryz.func25 (by kernel_rfl) all_nil fun x => by kernel_rfl
end impl_StepSeal

namespace laws_heldTable
def S : Sp := ⟨28, ⟨[42, 3], [3], [.bor, .bor], .own⟩, [.agg .lent kd37, .I], [.O]⟩
theorem con (k : Nat) : Con Tryz.prog S (f k) := con_fn (nt := 42) (live := []) (Λ := noL) tok (all_cons (ok_con (laws_heldGame.con k)) (all_cons (ok_con (laws_heldRules.con k)) (all_cons (ok_con (laws_heldIntS.con k)) (all_cons (ok_con (laws_heldIntSS.con k)) all_nil)))) mixed Tryz.func28 (by kernel_rfl) all_nil fun x => by kernel_rfl
end laws_heldTable

namespace laws_FnExactStepSeal
def S : Sp := ⟨4, ⟨[37, 3], [4], [.bor, .bor], .own⟩, [.agg .lent kd37, .I], [.B]⟩
theorem con (k : Nat) : Con Tryz.prog S (f k) := con_fn (nt := 101) (live := []) (Λ := noL) tok (all_cons (ok_con (laws_szTable.con k)) (all_cons (ok_con (spec_StepSeal.con k)) (all_cons (ok_con (laws_toTable.con k)) (all_cons (ok_con (impl_StepSeal.con k)) (all_cons (ok_con (laws_eqTable.con k)) (all_cons (ok_con (laws_markTable.con k)) (all_cons (ok_con (laws_heldTable.con k)) all_nil))))))) mixed Tryz.func4 (by kernel_rfl) all_nil fun x => by kernel_rfl
end laws_FnExactStepSeal
end Go.Proofs.YtbblolalkpfapaaGreat
