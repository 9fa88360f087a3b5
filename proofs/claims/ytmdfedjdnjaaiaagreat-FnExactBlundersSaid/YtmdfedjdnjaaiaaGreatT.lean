/- The types of the program, as the evaluator reads them. Printed by a program. -/
import Derived.Test.YtmdfedjdnjaaiaaGreatVShape
import Derived.Test.YtmdfedjdnjaaiaaGreatProg
set_option linter.unusedVariables false
namespace Go.Proofs.YtmdfedjdnjaaiaaGreat.M
open Go Go.Proofs.YtmdfedjdnjaaiaaGreat.V
def tl : List (Nat × TE) := [(3, ⟨.int .i64, 1, 8⟩), (4, ⟨.bool, 1, 1⟩), (9, ⟨.str, 1, 16⟩), (24, ⟨.slice 3, 1, 24⟩), (26, ⟨.struct [(0, 3), (1, 3), (2, 4), (3, 4), (4, 24), (5, 24), (6, 3), (7, 3)], 8, 88⟩), (27, ⟨.slice 24, 1, 24⟩), (29, ⟨.struct [(0, 26), (8, 27), (9, 24), (10, 24), (11, 3), (12, 3), (13, 3)], 14, 184⟩), (57, ⟨.struct [(0, 3), (1, 3), (2, 4), (3, 4), (4, 24), (5, 24), (6, 3), (7, 3)], 8, 88⟩), (68, ⟨.struct [(0, 57), (8, 27), (9, 24), (10, 24), (11, 3), (12, 3), (13, 3)], 14, 184⟩), (70, ⟨.struct [(0, 57), (8, 24), (9, 4), (10, 24), (11, 68), (25, 24), (26, 27)], 27, 376⟩), (74, ⟨.struct [(0, 26), (8, 24), (9, 4), (10, 24), (11, 29), (25, 24), (26, 27)], 27, 376⟩), (146, ⟨.array 52 4, 52, 52⟩), (157, ⟨.slice 4, 1, 24⟩)]
def tt : TT := V.look tl
theorem fact3 : TFact Tryz.prog tt 3 ⟨.int .i64, 1, 8⟩ := ⟨Tryz.underlying3, info_ok (zs := ((leafTypes tt depth 3).map (zeroV tt))) (by kernel_rfl) (by kernel_rfl), fun _ => by kernel_rfl, ⟨by decide, by decide⟩⟩
theorem fact4 : TFact Tryz.prog tt 4 ⟨.bool, 1, 1⟩ := ⟨Tryz.underlying4, info_ok (zs := ((leafTypes tt depth 4).map (zeroV tt))) (by kernel_rfl) (by kernel_rfl), fun _ => by kernel_rfl, ⟨by decide, by decide⟩⟩
theorem fact9 : TFact Tryz.prog tt 9 ⟨.str, 1, 16⟩ := ⟨Tryz.underlying9, info_ok (zs := ((leafTypes tt depth 9).map (zeroV tt))) (by kernel_rfl) (by kernel_rfl), fun _ => by kernel_rfl, ⟨by decide, by decide⟩⟩
theorem fact24 : TFact Tryz.prog tt 24 ⟨.slice 3, 1, 24⟩ := ⟨Tryz.underlying24, info_ok (zs := ((leafTypes tt depth 24).map (zeroV tt))) (by kernel_rfl) (by kernel_rfl), fun _ => by kernel_rfl, ⟨by decide, by decide⟩⟩
theorem fact26 : TFact Tryz.prog tt 26 ⟨.struct [(0, 3), (1, 3), (2, 4), (3, 4), (4, 24), (5, 24), (6, 3), (7, 3)], 8, 88⟩ := ⟨⟨_, Tryz.underlying26, by kernel_rfl, fields_ok (by kernel_rfl)⟩, info_ok (zs := ((leafTypes tt depth 26).map (zeroV tt))) (by kernel_rfl) (by kernel_rfl), fun _ => by kernel_rfl, ⟨by decide, by decide⟩⟩
theorem fact27 : TFact Tryz.prog tt 27 ⟨.slice 24, 1, 24⟩ := ⟨Tryz.underlying27, info_ok (zs := ((leafTypes tt depth 27).map (zeroV tt))) (by kernel_rfl) (by kernel_rfl), fun _ => by kernel_rfl, ⟨by decide, by decide⟩⟩
theorem fact29 : TFact Tryz.prog tt 29 ⟨.struct [(0, 26), (8, 27), (9, 24), (10, 24), (11, 3), (12, 3), (13, 3)], 14, 184⟩ := ⟨⟨_, Tryz.underlying29, by kernel_rfl, fields_ok (by kernel_rfl)⟩, info_ok (zs := ((leafTypes tt depth 29).map (zeroV tt))) (by kernel_rfl) (by kernel_rfl), fun _ => by kernel_rfl, ⟨by decide, by decide⟩⟩
theorem fact57 : TFact Tryz.prog tt 57 ⟨.struct [(0, 3), (1, 3), (2, 4), (3, 4), (4, 24), (5, 24), (6, 3), (7, 3)], 8, 88⟩ := ⟨⟨_, Tryz.underlying57, by kernel_rfl, fields_ok (by kernel_rfl)⟩, info_ok (zs := ((leafTypes tt depth 57).map (zeroV tt))) (by kernel_rfl) (by kernel_rfl), fun _ => by kernel_rfl, ⟨by decide, by decide⟩⟩
theorem fact68 : TFact Tryz.prog tt 68 ⟨.struct [(0, 57), (8, 27), (9, 24), (10, 24), (11, 3), (12, 3), (13, 3)], 14, 184⟩ := ⟨⟨_, Tryz.underlying68, by kernel_rfl, fields_ok (by kernel_rfl)⟩, info_ok (zs := ((leafTypes tt depth 68).map (zeroV tt))) (by kernel_rfl) (by kernel_rfl), fun _ => by kernel_rfl, ⟨by decide, by decide⟩⟩
theorem fact70 : TFact Tryz.prog tt 70 ⟨.struct [(0, 57), (8, 24), (9, 4), (10, 24), (11, 68), (25, 24), (26, 27)], 27, 376⟩ := ⟨⟨_, Tryz.underlying70, by kernel_rfl, fields_ok (by kernel_rfl)⟩, info_ok (zs := ((leafTypes tt depth 70).map (zeroV tt))) (by kernel_rfl) (by kernel_rfl), fun _ => by kernel_rfl, ⟨by decide, by decide⟩⟩
theorem fact74 : TFact Tryz.prog tt 74 ⟨.struct [(0, 26), (8, 24), (9, 4), (10, 24), (11, 29), (25, 24), (26, 27)], 27, 376⟩ := ⟨⟨_, Tryz.underlying74, by kernel_rfl, fields_ok (by kernel_rfl)⟩, info_ok (zs := ((leafTypes tt depth 74).map (zeroV tt))) (by kernel_rfl) (by kernel_rfl), fun _ => by kernel_rfl, ⟨by decide, by decide⟩⟩
theorem fact146 : TFact Tryz.prog tt 146 ⟨.array 52 4, 52, 52⟩ := ⟨Tryz.underlying146, info_ok (zs := (List.replicate 52 (zeroV tt 4))) (by kernel_rfl) (by kernel_rfl), fun h => absurd rfl (h _ _), ⟨by decide, by decide⟩⟩
theorem fact157 : TFact Tryz.prog tt 157 ⟨.slice 4, 1, 24⟩ := ⟨Tryz.underlying157, info_ok (zs := ((leafTypes tt depth 157).map (zeroV tt))) (by kernel_rfl) (by kernel_rfl), fun _ => by kernel_rfl, ⟨by decide, by decide⟩⟩
theorem tok : TOK Tryz.prog tt := TOK_of (all_cons fact3 (all_cons fact4 (all_cons fact9 (all_cons fact24 (all_cons fact26 (all_cons fact27 (all_cons fact29 (all_cons fact57 (all_cons fact68 (all_cons fact70 (all_cons fact74 (all_cons fact146 (all_cons fact157 all_nil)))))))))))))
theorem mixed : Tryz.prog.follows .mixedOrders = true := by kernel_rfl
def kd26 : List LK := [.I, .I, .bool, .bool, .V, .V, .I, .I]
def kd29 : List LK := [.I, .I, .bool, .bool, .V, .V, .I, .I, .rows, .V, .V, .I, .I, .I]
def kd70 : List LK := [.I, .I, .bool, .bool, .V, .V, .I, .I, .V, .bool, .V, .I, .I, .bool, .bool, .V, .V, .I, .I, .rows, .V, .V, .I, .I, .I, .V, .rows]
end Go.Proofs.YtmdfedjdnjaaiaaGreat.M
