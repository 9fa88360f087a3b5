/- The types of the program, as the evaluator reads them. Printed by a program. -/
import Derived.Test.YtpdkglbbhfhlfaaGreatVShape
import Derived.Test.YtpdkglbbhfhlfaaGreatProg
set_option linter.unusedVariables false
namespace Go.Proofs.YtpdkglbbhfhlfaaGreat.M
open Go Go.Proofs.YtpdkglbbhfhlfaaGreat.V
def tl : List (Nat × TE) := [(3, ⟨.int .i64, 1, 8⟩), (4, ⟨.bool, 1, 1⟩), (5, ⟨.int .u8, 1, 1⟩), (9, ⟨.str, 1, 16⟩), (22, ⟨.slice 5, 1, 24⟩), (24, ⟨.slice 3, 1, 24⟩), (26, ⟨.struct [(0, 3), (1, 3), (2, 4), (3, 4), (4, 24), (5, 24), (6, 3), (7, 3)], 8, 88⟩), (27, ⟨.slice 24, 1, 24⟩), (29, ⟨.struct [(0, 26), (8, 27), (9, 24), (10, 24), (11, 3), (12, 3), (13, 3)], 14, 184⟩), (49, ⟨.slice 133, 1, 24⟩), (51, ⟨.struct [(0, 49), (1, 24), (2, 24), (3, 24)], 4, 96⟩), (66, ⟨.struct [(0, 26), (8, 24), (9, 4), (10, 24), (11, 29), (25, 24), (26, 27)], 27, 376⟩), (84, ⟨.slice 97, 1, 24⟩), (97, ⟨.struct [(0, 3), (1, 3), (2, 24), (3, 24)], 4, 64⟩), (105, ⟨.ptr 155, 1, 8⟩), (133, ⟨.struct [(0, 24), (1, 3)], 2, 32⟩), (141, ⟨.slice 9, 1, 24⟩), (155, ⟨.struct [(0, 22), (1, 3), (2, 3)], 3, 40⟩), (165, ⟨.array 52 4, 52, 52⟩), (173, ⟨.slice 4, 1, 24⟩)]
def tt : TT := V.look tl
theorem fact3 : TFact Tryz.prog tt 3 ⟨.int .i64, 1, 8⟩ := ⟨Tryz.underlying3, info_ok (zs := ((leafTypes tt depth 3).map (zeroV tt))) (by kernel_rfl) (by kernel_rfl), fun _ => by kernel_rfl, ⟨by decide, by decide⟩⟩
theorem fact4 : TFact Tryz.prog tt 4 ⟨.bool, 1, 1⟩ := ⟨Tryz.underlying4, info_ok (zs := ((leafTypes tt depth 4).map (zeroV tt))) (by kernel_rfl) (by kernel_rfl), fun _ => by kernel_rfl, ⟨by decide, by decide⟩⟩
theorem fact5 : TFact Tryz.prog tt 5 ⟨.int .u8, 1, 1⟩ := ⟨Tryz.underlying5, info_ok (zs := ((leafTypes tt depth 5).map (zeroV tt))) (by kernel_rfl) (by kernel_rfl), fun _ => by kernel_rfl, ⟨by decide, by decide⟩⟩
theorem fact9 : TFact Tryz.prog tt 9 ⟨.str, 1, 16⟩ := ⟨Tryz.underlying9, info_ok (zs := ((leafTypes tt depth 9).map (zeroV tt))) (by kernel_rfl) (by kernel_rfl), fun _ => by kernel_rfl, ⟨by decide, by decide⟩⟩
theorem fact22 : TFact Tryz.prog tt 22 ⟨.slice 5, 1, 24⟩ := ⟨Tryz.underlying22, info_ok (zs := ((leafTypes tt depth 22).map (zeroV tt))) (by kernel_rfl) (by kernel_rfl), fun _ => by kernel_rfl, ⟨by decide, by decide⟩⟩
theorem fact24 : TFact Tryz.prog tt 24 ⟨.slice 3, 1, 24⟩ := ⟨Tryz.underlying24, info_ok (zs := ((leafTypes tt depth 24).map (zeroV tt))) (by kernel_rfl) (by kernel_rfl), fun _ => by kernel_rfl, ⟨by decide, by decide⟩⟩
theorem fact26 : TFact Tryz.prog tt 26 ⟨.struct [(0, 3), (1, 3), (2, 4), (3, 4), (4, 24), (5, 24), (6, 3), (7, 3)], 8, 88⟩ := ⟨⟨_, Tryz.underlying26, by kernel_rfl, fields_ok (by kernel_rfl)⟩, info_ok (zs := ((leafTypes tt depth 26).map (zeroV tt))) (by kernel_rfl) (by kernel_rfl), fun _ => by kernel_rfl, ⟨by decide, by decide⟩⟩
theorem fact27 : TFact Tryz.prog tt 27 ⟨.slice 24, 1, 24⟩ := ⟨Tryz.underlying27, info_ok (zs := ((leafTypes tt depth 27).map (zeroV tt))) (by kernel_rfl) (by kernel_rfl), fun _ => by kernel_rfl, ⟨by decide, by decide⟩⟩
theorem fact29 : TFact Tryz.prog tt 29 ⟨.struct [(0, 26), (8, 27), (9, 24), (10, 24), (11, 3), (12, 3), (13, 3)], 14, 184⟩ := ⟨⟨_, Tryz.underlying29, by kernel_rfl, fields_ok (by kernel_rfl)⟩, info_ok (zs := ((leafTypes tt depth 29).map (zeroV tt))) (by kernel_rfl) (by kernel_rfl), fun _ => by kernel_rfl, ⟨by decide, by decide⟩⟩
theorem fact49 : TFact Tryz.prog tt 49 ⟨.slice 133, 1, 24⟩ := ⟨Tryz.underlying49, info_ok (zs := ((leafTypes tt depth 49).map (zeroV tt))) (by kernel_rfl) (by kernel_rfl), fun _ => by kernel_rfl, ⟨by decide, by decide⟩⟩
theorem fact51 : TFact Tryz.prog tt 51 ⟨.struct [(0, 49), (1, 24), (2, 24), (3, 24)], 4, 96⟩ := ⟨⟨_, Tryz.underlying51, by kernel_rfl, fields_ok (by kernel_rfl)⟩, info_ok (zs := ((leafTypes tt depth 51).map (zeroV tt))) (by kernel_rfl) (by kernel_rfl), fun _ => by kernel_rfl, ⟨by decide, by decide⟩⟩
theorem fact66 : TFact Tryz.prog tt 66 ⟨.struct [(0, 26), (8, 24), (9, 4), (10, 24), (11, 29), (25, 24), (26, 27)], 27, 376⟩ := ⟨⟨_, Tryz.underlying66, by kernel_rfl, fields_ok (by kernel_rfl)⟩, info_ok (zs := ((leafTypes tt depth 66).map (zeroV tt))) (by kernel_rfl) (by kernel_rfl), fun _ => by kernel_rfl, ⟨by decide, by decide⟩⟩
theorem fact84 : TFact Tryz.prog tt 84 ⟨.slice 97, 1, 24⟩ := ⟨Tryz.underlying84, info_ok (zs := ((leafTypes tt depth 84).map (zeroV tt))) (by kernel_rfl) (by kernel_rfl), fun _ => by kernel_rfl, ⟨by decide, by decide⟩⟩
theorem fact97 : TFact Tryz.prog tt 97 ⟨.struct [(0, 3), (1, 3), (2, 24), (3, 24)], 4, 64⟩ := ⟨⟨_, Tryz.underlying97, by kernel_rfl, fields_ok (by kernel_rfl)⟩, info_ok (zs := ((leafTypes tt depth 97).map (zeroV tt))) (by kernel_rfl) (by kernel_rfl), fun _ => by kernel_rfl, ⟨by decide, by decide⟩⟩
theorem fact105 : TFact Tryz.prog tt 105 ⟨.ptr 155, 1, 8⟩ := ⟨Tryz.underlying105, info_ok (zs := ((leafTypes tt depth 105).map (zeroV tt))) (by kernel_rfl) (by kernel_rfl), fun _ => by kernel_rfl, ⟨by decide, by decide⟩⟩
theorem fact133 : TFact Tryz.prog tt 133 ⟨.struct [(0, 24), (1, 3)], 2, 32⟩ := ⟨⟨_, Tryz.underlying133, by kernel_rfl, fields_ok (by kernel_rfl)⟩, info_ok (zs := ((leafTypes tt depth 133).map (zeroV tt))) (by kernel_rfl) (by kernel_rfl), fun _ => by kernel_rfl, ⟨by decide, by decide⟩⟩
theorem fact141 : TFact Tryz.prog tt 141 ⟨.slice 9, 1, 24⟩ := ⟨Tryz.underlying141, info_ok (zs := ((leafTypes tt depth 141).map (zeroV tt))) (by kernel_rfl) (by kernel_rfl), fun _ => by kernel_rfl, ⟨by decide, by decide⟩⟩
theorem fact155 : TFact Tryz.prog tt 155 ⟨.struct [(0, 22), (1, 3), (2, 3)], 3, 40⟩ := ⟨⟨_, Tryz.underlying155, by kernel_rfl, fields_ok (by kernel_rfl)⟩, info_ok (zs := ((leafTypes tt depth 155).map (zeroV tt))) (by kernel_rfl) (by kernel_rfl), fun _ => by kernel_rfl, ⟨by decide, by decide⟩⟩
theorem fact165 : TFact Tryz.prog tt 165 ⟨.array 52 4, 52, 52⟩ := ⟨Tryz.underlying165, info_ok (zs := (List.replicate 52 (zeroV tt 4))) (by kernel_rfl) (by kernel_rfl), fun h => absurd rfl (h _ _), ⟨by decide, by decide⟩⟩
theorem fact173 : TFact Tryz.prog tt 173 ⟨.slice 4, 1, 24⟩ := ⟨Tryz.underlying173, info_ok (zs := ((leafTypes tt depth 173).map (zeroV tt))) (by kernel_rfl) (by kernel_rfl), fun _ => by kernel_rfl, ⟨by decide, by decide⟩⟩
theorem tok : TOK Tryz.prog tt := TOK_of (all_cons fact3 (all_cons fact4 (all_cons fact5 (all_cons fact9 (all_cons fact22 (all_cons fact24 (all_cons fact26 (all_cons fact27 (all_cons fact29 (all_cons fact49 (all_cons fact51 (all_cons fact66 (all_cons fact84 (all_cons fact97 (all_cons fact105 (all_cons fact133 (all_cons fact141 (all_cons fact155 (all_cons fact165 (all_cons fact173 all_nil))))))))))))))))))))
theorem mixed : Tryz.prog.follows .mixedOrders = true := by kernel_rfl
def kd26 : List LK := [.I, .I, .bool, .bool, .V, .V, .I, .I]
def kd29 : List LK := [.I, .I, .bool, .bool, .V, .V, .I, .I, .rows, .V, .V, .I, .I, .I]
def kd51 : List LK := [(.recs [true, false]), .V, .V, .V]
def kd66 : List LK := [.I, .I, .bool, .bool, .V, .V, .I, .I, .V, .bool, .V, .I, .I, .bool, .bool, .V, .V, .I, .I, .rows, .V, .V, .I, .I, .I, .V, .rows]
def kd97 : List LK := [.I, .I, .V, .V]
def kd133 : List LK := [.V, .I]
def kd155 : List LK := [(.ints .u8), .I, .I]
end Go.Proofs.YtpdkglbbhfhlfaaGreat.M
