/- The types of the program, as the evaluator reads them. Printed by a program. -/
import Derived.Test.YtfbafmeeejmgoaaDoorVShape
import Derived.Test.YtfbafmeeejmgoaaDoorProg
set_option linter.unusedVariables false
namespace Go.Proofs.YtfbafmeeejmgoaaDoor.M
open Go Go.Proofs.YtfbafmeeejmgoaaDoor.V
def tl : List (Nat × TE) := [(3, ⟨.int .i64, 1, 8⟩), (4, ⟨.bool, 1, 1⟩), (5, ⟨.int .u8, 1, 1⟩), (9, ⟨.str, 1, 16⟩), (22, ⟨.slice 3, 1, 24⟩), (27, ⟨.slice 5, 1, 24⟩), (43, ⟨.slice 9, 1, 24⟩), (70, ⟨.array 13 3, 13, 104⟩), (83, ⟨.array 52 4, 52, 52⟩)]
def tt : TT := V.look tl
theorem fact3 : TFact Tryd.prog tt 3 ⟨.int .i64, 1, 8⟩ := ⟨Tryd.underlying3, info_ok (zs := ((leafTypes tt depth 3).map (zeroV tt))) (by kernel_rfl) (by kernel_rfl), fun _ => by kernel_rfl, ⟨by decide, by decide⟩⟩
theorem fact4 : TFact Tryd.prog tt 4 ⟨.bool, 1, 1⟩ := ⟨Tryd.underlying4, info_ok (zs := ((leafTypes tt depth 4).map (zeroV tt))) (by kernel_rfl) (by kernel_rfl), fun _ => by kernel_rfl, ⟨by decide, by decide⟩⟩
theorem fact5 : TFact Tryd.prog tt 5 ⟨.int .u8, 1, 1⟩ := ⟨Tryd.underlying5, info_ok (zs := ((leafTypes tt depth 5).map (zeroV tt))) (by kernel_rfl) (by kernel_rfl), fun _ => by kernel_rfl, ⟨by decide, by decide⟩⟩
theorem fact9 : TFact Tryd.prog tt 9 ⟨.str, 1, 16⟩ := ⟨Tryd.underlying9, info_ok (zs := ((leafTypes tt depth 9).map (zeroV tt))) (by kernel_rfl) (by kernel_rfl), fun _ => by kernel_rfl, ⟨by decide, by decide⟩⟩
theorem fact22 : TFact Tryd.prog tt 22 ⟨.slice 3, 1, 24⟩ := ⟨Tryd.underlying22, info_ok (zs := ((leafTypes tt depth 22).map (zeroV tt))) (by kernel_rfl) (by kernel_rfl), fun _ => by kernel_rfl, ⟨by decide, by decide⟩⟩
theorem fact27 : TFact Tryd.prog tt 27 ⟨.slice 5, 1, 24⟩ := ⟨Tryd.underlying27, info_ok (zs := ((leafTypes tt depth 27).map (zeroV tt))) (by kernel_rfl) (by kernel_rfl), fun _ => by kernel_rfl, ⟨by decide, by decide⟩⟩
theorem fact43 : TFact Tryd.prog tt 43 ⟨.slice 9, 1, 24⟩ := ⟨Tryd.underlying43, info_ok (zs := ((leafTypes tt depth 43).map (zeroV tt))) (by kernel_rfl) (by kernel_rfl), fun _ => by kernel_rfl, ⟨by decide, by decide⟩⟩
theorem fact70 : TFact Tryd.prog tt 70 ⟨.array 13 3, 13, 104⟩ := ⟨Tryd.underlying70, info_ok (zs := (List.replicate 13 (zeroV tt 3))) (by kernel_rfl) (by kernel_rfl), fun h => absurd rfl (h _ _), ⟨by decide, by decide⟩⟩
theorem fact83 : TFact Tryd.prog tt 83 ⟨.array 52 4, 52, 52⟩ := ⟨Tryd.underlying83, info_ok (zs := (List.replicate 52 (zeroV tt 4))) (by kernel_rfl) (by kernel_rfl), fun h => absurd rfl (h _ _), ⟨by decide, by decide⟩⟩
theorem tok : TOK Tryd.prog tt := TOK_of (all_cons fact3 (all_cons fact4 (all_cons fact5 (all_cons fact9 (all_cons fact22 (all_cons fact27 (all_cons fact43 (all_cons fact70 (all_cons fact83 all_nil)))))))))
theorem mixed : Tryd.prog.follows .mixedOrders = true := by kernel_rfl

end Go.Proofs.YtfbafmeeejmgoaaDoor.M
