/- The types of the program, as the evaluator reads them. Printed by a program. -/
import Derived.Test.YtfbafmeeejmgoaaDoorVShape
import Derived.Test.YtfbafmeeejmgoaaDoorProg
set_option linter.unusedVariables false
namespace Go.Proofs.YtfbafmeeejmgoaaDoor.M
open Go Go.Proofs.YtfbafmeeejmgoaaDoor.V
def tl : List (Nat × TE) := [(3, ⟨.int .i64, 1, 8⟩), (4, ⟨.bool, 1, 1⟩), (5, ⟨.int .u8, 1, 1⟩), (9, ⟨.str, 1, 16⟩), (22, ⟨.slice 3, 1, 24⟩), (27, ⟨.slice 5, 1, 24⟩), (29, ⟨.slice 22, 1, 24⟩), (35, ⟨.struct [(0, 3), (1, 3), (2, 4), (3, 4), (4, 22), (5, 22), (6, 3), (7, 3)], 8, 88⟩), (37, ⟨.struct [(0, 35), (8, 29), (9, 22), (10, 22), (11, 3), (12, 3), (13, 3)], 14, 184⟩), (39, ⟨.struct [(0, 35), (8, 22), (9, 4), (10, 22), (11, 37), (25, 22), (26, 29)], 27, 376⟩), (43, ⟨.slice 9, 1, 24⟩), (55, ⟨.ptr 74, 1, 8⟩), (70, ⟨.array 13 3, 13, 104⟩), (74, ⟨.struct [(0, 27), (1, 3), (2, 3)], 3, 40⟩), (83, ⟨.array 52 4, 52, 52⟩)]
def tt : TT := V.look tl
theorem fact3 : TFact Tryd.prog tt 3 ⟨.int .i64, 1, 8⟩ := ⟨Tryd.underlying3, info_ok (zs := ((leafTypes tt depth 3).map (zeroV tt))) (by kernel_rfl) (by kernel_rfl), fun _ => by kernel_rfl, ⟨by decide, by decide⟩⟩
theorem fact4 : TFact Tryd.prog tt 4 ⟨.bool, 1, 1⟩ := ⟨Tryd.underlying4, info_ok (zs := ((leafTypes tt depth 4).map (zeroV tt))) (by kernel_rfl) (by kernel_rfl), fun _ => by kernel_rfl, ⟨by decide, by decide⟩⟩
theorem fact5 : TFact Tryd.prog tt 5 ⟨.int .u8, 1, 1⟩ := ⟨Tryd.underlying5, info_ok (zs := ((leafTypes tt depth 5).map (zeroV tt))) (by kernel_rfl) (by kernel_rfl), fun _ => by kernel_rfl, ⟨by decide, by decide⟩⟩
theorem fact9 : TFact Tryd.prog tt 9 ⟨.str, 1, 16⟩ := ⟨Tryd.underlying9, info_ok (zs := ((leafTypes tt depth 9).map (zeroV tt))) (by kernel_rfl) (by kernel_rfl), fun _ => by kernel_rfl, ⟨by decide, by decide⟩⟩
theorem fact22 : TFact Tryd.prog tt 22 ⟨.slice 3, 1, 24⟩ := ⟨Tryd.underlying22, info_ok (zs := ((leafTypes tt depth 22).map (zeroV tt))) (by kernel_rfl) (by kernel_rfl), fun _ => by kernel_rfl, ⟨by decide, by decide⟩⟩
theorem fact27 : TFact Tryd.prog tt 27 ⟨.slice 5, 1, 24⟩ := ⟨Tryd.underlying27, info_ok (zs := ((leafTypes tt depth 27).map (zeroV tt))) (by kernel_rfl) (by kernel_rfl), fun _ => by kernel_rfl, ⟨by decide, by decide⟩⟩
theorem fact29 : TFact Tryd.prog tt 29 ⟨.slice 22, 1, 24⟩ := ⟨Tryd.underlying29, info_ok (zs := ((leafTypes tt depth 29).map (zeroV tt))) (by kernel_rfl) (by kernel_rfl), fun _ => by kernel_rfl, ⟨by decide, by decide⟩⟩
theorem fact35 : TFact Tryd.prog tt 35 ⟨.struct [(0, 3), (1, 3), (2, 4), (3, 4), (4, 22), (5, 22), (6, 3), (7, 3)], 8, 88⟩ := ⟨⟨_, Tryd.underlying35, by kernel_rfl, fields_ok (by kernel_rfl)⟩, info_ok (zs := ((leafTypes tt depth 35).map (zeroV tt))) (by kernel_rfl) (by kernel_rfl), fun _ => by kernel_rfl, ⟨by decide, by decide⟩⟩
theorem fact37 : TFact Tryd.prog tt 37 ⟨.struct [(0, 35), (8, 29), (9, 22), (10, 22), (11, 3), (12, 3), (13, 3)], 14, 184⟩ := ⟨⟨_, Tryd.underlying37, by kernel_rfl, fields_ok (by kernel_rfl)⟩, info_ok (zs := ((leafTypes tt depth 37).map (zeroV tt))) (by kernel_rfl) (by kernel_rfl), fun _ => by kernel_rfl, ⟨by decide, by decide⟩⟩
theorem fact39 : TFact Tryd.prog tt 39 ⟨.struct [(0, 35), (8, 22), (9, 4), (10, 22), (11, 37), (25, 22), (26, 29)], 27, 376⟩ := ⟨⟨_, Tryd.underlying39, by kernel_rfl, fields_ok (by kernel_rfl)⟩, info_ok (zs := ((leafTypes tt depth 39).map (zeroV tt))) (by kernel_rfl) (by kernel_rfl), fun _ => by kernel_rfl, ⟨by decide, by decide⟩⟩
theorem fact43 : TFact Tryd.prog tt 43 ⟨.slice 9, 1, 24⟩ := ⟨Tryd.underlying43, info_ok (zs := ((leafTypes tt depth 43).map (zeroV tt))) (by kernel_rfl) (by kernel_rfl), fun _ => by kernel_rfl, ⟨by decide, by decide⟩⟩
theorem fact55 : TFact Tryd.prog tt 55 ⟨.ptr 74, 1, 8⟩ := ⟨Tryd.underlying55, info_ok (zs := ((leafTypes tt depth 55).map (zeroV tt))) (by kernel_rfl) (by kernel_rfl), fun _ => by kernel_rfl, ⟨by decide, by decide⟩⟩
theorem fact70 : TFact Tryd.prog tt 70 ⟨.array 13 3, 13, 104⟩ := ⟨Tryd.underlying70, info_ok (zs := (List.replicate 13 (zeroV tt 3))) (by kernel_rfl) (by kernel_rfl), fun h => absurd rfl (h _ _), ⟨by decide, by decide⟩⟩
theorem fact74 : TFact Tryd.prog tt 74 ⟨.struct [(0, 27), (1, 3), (2, 3)], 3, 40⟩ := ⟨⟨_, Tryd.underlying74, by kernel_rfl, fields_ok (by kernel_rfl)⟩, info_ok (zs := ((leafTypes tt depth 74).map (zeroV tt))) (by kernel_rfl) (by kernel_rfl), fun _ => by kernel_rfl, ⟨by decide, by decide⟩⟩
theorem fact83 : TFact Tryd.prog tt 83 ⟨.array 52 4, 52, 52⟩ := ⟨Tryd.underlying83, info_ok (zs := (List.replicate 52 (zeroV tt 4))) (by kernel_rfl) (by kernel_rfl), fun h => absurd rfl (h _ _), ⟨by decide, by decide⟩⟩
theorem tok : TOK Tryd.prog tt := TOK_of (all_cons fact3 (all_cons fact4 (all_cons fact5 (all_cons fact9 (all_cons fact22 (all_cons fact27 (all_cons fact29 (all_cons fact35 (all_cons fact37 (all_cons fact39 (all_cons fact43 (all_cons fact55 (all_cons fact70 (all_cons fact74 (all_cons fact83 all_nil)))))))))))))))
theorem mixed : Tryd.prog.follows .mixedOrders = true := by kernel_rfl
def kd35 : List LK := [.I, .I, .bool, .bool, .V, .V, .I, .I]
def kd37 : List LK := [.I, .I, .bool, .bool, .V, .V, .I, .I, .rows, .V, .V, .I, .I, .I]
def kd39 : List LK := [.I, .I, .bool, .bool, .V, .V, .I, .I, .V, .bool, .V, .I, .I, .bool, .bool, .V, .V, .I, .I, .rows, .V, .V, .I, .I, .I, .V, .rows]
def kd74 : List LK := [(.ints .u8), .I, .I]
end Go.Proofs.YtfbafmeeejmgoaaDoor.M
