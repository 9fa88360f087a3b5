/- That the Go functions come to the answers of the plain ones. Printed by a program. -/
import Derived.Test.YtfmmdbnkeadieaaDoorT
import Derived.Test.YtfmmdbnkeadieaaDoorMFnExactFormatSheet
import Derived.Test.YtfmmdbnkeadieaaDoorMFnExactFormatNumbers
import Derived.Test.YtfmmdbnkeadieaaDoorFFnExactFormatTable
set_option linter.unusedVariables false
set_option maxRecDepth 100000
set_option maxHeartbeats 20000000
namespace Go.Proofs.YtfmmdbnkeadieaaDoor
open Go Go.Proofs.YtfmmdbnkeadieaaDoor.V Go.Proofs.YtfmmdbnkeadieaaDoor.M

namespace laws_szRules
def S : Sp := ⟨28, ⟨[34, 3], [3], [.bor, .bor], .own⟩, [.agg .lent kd34, .I], [.O]⟩
theorem con (k : Nat) : Con Tryd.prog S (f k) := con_fn (nt := 18) (live := []) (Λ := noL) tok (all_cons (ok_con (laws_szIntS.con k)) all_nil) mixed Tryd.func28 (by kernel_rfl) all_nil fun x => by kernel_rfl
end laws_szRules

namespace laws_szGame
def S : Sp := ⟨29, ⟨[36, 3], [3], [.bor, .bor], .own⟩, [.agg .lent kd36, .I], [.O]⟩
theorem con (k : Nat) : Con Tryd.prog S (f k) := con_fn (nt := 30) (live := []) (Λ := noL) tok (all_cons (ok_con (laws_szIntSS.con k)) (all_cons (ok_con (laws_szIntS.con k)) (all_cons (ok_con (laws_szRules.con k)) all_nil))) mixed Tryd.func29 (by kernel_rfl) all_nil fun x => by kernel_rfl
end laws_szGame

namespace laws_szTable
def S : Sp := ⟨16, ⟨[38, 3], [3], [.bor, .bor], .own⟩, [.agg .lent kd38, .I], [.O]⟩
theorem con (k : Nat) : Con Tryd.prog S (f k) := con_fn (nt := 42) (live := []) (Λ := noL) tok (all_cons (ok_con (laws_szIntSS.con k)) (all_cons (ok_con (laws_szIntS.con k)) (all_cons (ok_con (laws_szRules.con k)) (all_cons (ok_con (laws_szGame.con k)) all_nil)))) mixed Tryd.func16 (by kernel_rfl) all_nil fun x => by kernel_rfl
end laws_szTable

namespace spec_FormatTable
def S : Sp := ⟨17, ⟨[45], [9], [.bor], .own⟩, [.agg .lent kd38], [.l .own .str]⟩
theorem con (k : Nat) : Con Tryd.prog S (f k) := con_fn (nt := 19) (live := []) (Λ := noL) tok (all_cons (ok_con (spec_FormatNumbers.con k)) all_nil) mixed Tryd.func17 (by kernel_rfl) all_nil fun x => by kernel_rfl
end spec_FormatTable

namespace laws_toRules
def S : Sp := ⟨30, ⟨[34], [41], [.bor], .own⟩, [.agg .lent kd34], [.agg .own kd34]⟩
theorem con (k : Nat) : Con Tryd.prog S (f k) := con_fn (nt := 31) (live := []) (Λ := noL) tok (all_cons (ok_con (laws_toIntS.con k)) all_nil) mixed Tryd.func30 (by kernel_rfl) all_nil fun x => by kernel_rfl
end laws_toRules

namespace laws_toGame
def S : Sp := ⟨31, ⟨[36], [43], [.bor], .own⟩, [.agg .lent kd36], [.agg .own kd36]⟩
theorem con (k : Nat) : Con Tryd.prog S (f k) := con_fn (nt := 30) (live := []) (Λ := noL) tok (all_cons (ok_con (laws_toIntS.con k)) (all_cons (ok_con (laws_toIntSS.con k)) (all_cons (ok_con (laws_toRules.con k)) all_nil))) mixed Tryd.func31 (by kernel_rfl) all_nil fun x => by kernel_rfl
end laws_toGame

namespace laws_toTable
def S : Sp := ⟨18, ⟨[38], [45], [.bor], .own⟩, [.agg .lent kd38], [.agg .own kd38]⟩
theorem con (k : Nat) : Con Tryd.prog S (f k) := con_fn (nt := 32) (live := []) (Λ := noL) tok (all_cons (ok_con (laws_toIntS.con k)) (all_cons (ok_con (laws_toIntSS.con k)) (all_cons (ok_con (laws_toRules.con k)) (all_cons (ok_con (laws_toGame.con k)) all_nil)))) mixed Tryd.func18 (by kernel_rfl) all_nil fun x => by kernel_rfl
end laws_toTable

namespace impl_FormatTable
def S : Sp := ⟨19, ⟨[45], [9], [.bor], .own⟩, [.agg .lent kd38], [.l .own .str]⟩
theorem con (k : Nat) : Con Tryd.prog S (f k) := con_fn (nt := 19) (live := []) (Λ := noL) tok (all_cons (ok_con (impl_numbersText.con k)) all_nil) mixed Tryd.func19 (by kernel_rfl) all_nil fun x => by kernel_rfl
end impl_FormatTable

namespace laws_eqRules
def S : Sp := ⟨32, ⟨[41, 41], [4], [.bor, .bor], .own⟩, [.agg .lent kd34, .agg .lent kd34], [.B]⟩
theorem con (k : Nat) : Con Tryd.prog S (f k) := con_fn (nt := 47) (live := []) (Λ := noL) tok (all_cons (ok_con (laws_eqIntS.con k)) all_nil) mixed Tryd.func32 (by kernel_rfl) all_nil fun x => by kernel_rfl
end laws_eqRules

namespace laws_eqGame
def S : Sp := ⟨33, ⟨[43, 43], [4], [.bor, .bor], .own⟩, [.agg .lent kd36, .agg .lent kd36], [.B]⟩
theorem con (k : Nat) : Con Tryd.prog S (f k) := con_fn (nt := 44) (live := []) (Λ := noL) tok (all_cons (ok_con (laws_eqIntS.con k)) (all_cons (ok_con (laws_eqIntSS.con k)) (all_cons (ok_con (laws_eqRules.con k)) all_nil))) mixed Tryd.func33 (by kernel_rfl) all_nil fun x => by kernel_rfl
end laws_eqGame

namespace laws_eqTable
def S : Sp := ⟨20, ⟨[45, 45], [4], [.bor, .bor], .own⟩, [.agg .lent kd38, .agg .lent kd38], [.B]⟩
theorem con (k : Nat) : Con Tryd.prog S (f k) := con_fn (nt := 46) (live := []) (Λ := noL) tok (all_cons (ok_con (laws_eqIntS.con k)) (all_cons (ok_con (laws_eqIntSS.con k)) (all_cons (ok_con (laws_eqRules.con k)) (all_cons (ok_con (laws_eqGame.con k)) all_nil)))) mixed Tryd.func20 (by kernel_rfl) all_nil fun x => by kernel_rfl
end laws_eqTable

namespace laws_FnExactFormatTable
def S : Sp := ⟨5, ⟨[38], [4], [.bor], .own⟩, [.agg .lent kd38], [.B]⟩
theorem con (k : Nat) : Con Tryd.prog S (f k) := con_fn (nt := 27) (live := []) (Λ := noL) tok (all_cons (ok_con (laws_szTable.con k)) (all_cons (ok_con (spec_FormatTable.con k)) (all_cons (ok_con (laws_toTable.con k)) (all_cons (ok_con (impl_FormatTable.con k)) (all_cons (ok_con (laws_eqTable.con k)) all_nil))))) mixed Tryd.func5 (by kernel_rfl) all_nil fun x => by kernel_rfl
end laws_FnExactFormatTable
end Go.Proofs.YtfmmdbnkeadieaaDoor
