/- That the Go functions come to the answers of the plain ones. Printed by a program. -/
import Derived.Test.YtmdfedjdnjaaiaaGreatT
import Derived.Test.YtmdfedjdnjaaiaaGreatMFnExactGameAt
import Derived.Test.YtmdfedjdnjaaiaaGreatMFnExactMatchRound
import Derived.Test.YtmdfedjdnjaaiaaGreatFFnExactCouldHave
set_option linter.unusedVariables false
set_option maxRecDepth 100000
set_option maxHeartbeats 20000000
namespace Go.Proofs.YtmdfedjdnjaaiaaGreat
open Go Go.Proofs.YtmdfedjdnjaaiaaGreat.V Go.Proofs.YtmdfedjdnjaaiaaGreat.M

namespace spec_CouldHave
def S : Sp := ⟨61, ⟨[74, 3], [24], [.bor, .bor], .own⟩, [.agg .lent kd70, .I], [.l .own (.ints .i64)]⟩
theorem con (k : Nat) : Con Tryz.prog S (f k) := con_fn (nt := 18) (live := []) (Λ := noL) tok (all_cons (ok_con (spec_GameAt.con k)) (all_cons (ok_con (spec_Playable.con k)) all_nil)) mixed Tryz.func61 (by kernel_rfl) all_nil fun x => by kernel_rfl
end spec_CouldHave

namespace impl_CouldHave
def S : Sp := ⟨62, ⟨[74, 3], [24], [.bor, .bor], .own⟩, [.agg .lent kd70, .I], [.l .own (.ints .i64)]⟩
theorem con (k : Nat) : Con Tryz.prog S (f k) := con_fn (nt := 17) (live := []) (Λ := noL) tok (all_cons (ok_con (impl_GameAt.con k)) (all_cons (ok_con (impl_Playable.con k)) all_nil)) mixed Tryz.func62 (by kernel_rfl) all_nil fun x => by kernel_rfl
end impl_CouldHave

namespace laws_FnExactCouldHave
def S : Sp := ⟨8, ⟨[70, 3], [4], [.bor, .bor], .own⟩, [.agg .lent kd70, .I], [.B]⟩
theorem con (k : Nat) : Con Tryz.prog S (f k) := con_fn (nt := 74) (live := []) (Λ := noL) tok (all_cons (ok_con (laws_eqIntS.con k)) (all_cons (ok_con (laws_markIntS.con k)) (all_cons (ok_con (laws_heldIntS.con k)) (all_cons (ok_con (laws_szTable.con k)) (all_cons (ok_con (laws_toTable.con k)) (all_cons (ok_con (laws_eqTable.con k)) (all_cons (ok_con (spec_CouldHave.con k)) (all_cons (ok_con (impl_CouldHave.con k)) (all_cons (ok_con (laws_markTable.con k)) all_nil))))))))) mixed Tryz.func8 (by kernel_rfl) all_nil fun x => by kernel_rfl
end laws_FnExactCouldHave
end Go.Proofs.YtmdfedjdnjaaiaaGreat
