/- The types of the program, as the evaluator reads them. Printed by a program. -/
import Derived.Test.YtfmmdbnkeadieaaVShape
import Derived.Test.YtfmmdbnkeadieaaProg
set_option linter.unusedVariables false
namespace Go.Proofs.Ytfmmdbnkeadieaa.M
open Go Go.Proofs.Ytfmmdbnkeadieaa.V
def tl : List (Nat × TE) := [(3, ⟨.int .i64, 1, 8⟩), (4, ⟨.bool, 1, 1⟩), (5, ⟨.int .u8, 1, 1⟩), (22, ⟨.slice 3, 1, 24⟩), (29, ⟨.slice 22, 1, 24⟩), (36, ⟨.struct [(0, 3), (1, 3), (2, 4), (3, 4), (4, 22), (5, 22), (6, 3), (7, 3)], 8, 88⟩), (38, ⟨.struct [(0, 36), (8, 29), (9, 22), (10, 22), (11, 3), (12, 3), (13, 3)], 14, 184⟩), (57, ⟨.slice 5, 1, 24⟩), (107, ⟨.ptr 129, 1, 8⟩), (110, ⟨.array 52 4, 52, 52⟩), (129, ⟨.struct [(0, 57), (1, 3), (2, 3)], 3, 40⟩), (138, ⟨.slice 4, 1, 24⟩)]
def tt : TT := V.look tl
theorem fact3 : TFact Try.prog tt 3 ⟨.int .i64, 1, 8⟩ := ⟨Try.underlying3, info_ok (zs := ((leafTypes tt depth 3).map (zeroV tt))) (by kernel_rfl) (by kernel_rfl), fun _ => by kernel_rfl, ⟨by decide, by decide⟩⟩
theorem fact4 : TFact Try.prog tt 4 ⟨.bool, 1, 1⟩ := ⟨Try.underlying4, info_ok (zs := ((leafTypes tt depth 4).map (zeroV tt))) (by kernel_rfl) (by kernel_rfl), fun _ => by kernel_rfl, ⟨by decide, by decide⟩⟩
theorem fact5 : TFact Try.prog tt 5 ⟨.int .u8, 1, 1⟩ := ⟨Try.underlying5, info_ok (zs := ((leafTypes tt depth 5).map (zeroV tt))) (by kernel_rfl) (by kernel_rfl), fun _ => by kernel_rfl, ⟨by decide, by decide⟩⟩
theorem fact22 : TFact Try.prog tt 22 ⟨.slice 3, 1, 24⟩ := ⟨Try.underlying22, info_ok (zs := ((leafTypes tt depth 22).map (zeroV tt))) (by kernel_rfl) (by kernel_rfl), fun _ => by kernel_rfl, ⟨by decide, by decide⟩⟩
theorem fact29 : TFact Try.prog tt 29 ⟨.slice 22, 1, 24⟩ := ⟨Try.underlying29, info_ok (zs := ((leafTypes tt depth 29).map (zeroV tt))) (by kernel_rfl) (by kernel_rfl), fun _ => by kernel_rfl, ⟨by decide, by decide⟩⟩
theorem fact36 : TFact Try.prog tt 36 ⟨.struct [(0, 3), (1, 3), (2, 4), (3, 4), (4, 22), (5, 22), (6, 3), (7, 3)], 8, 88⟩ := ⟨⟨_, Try.underlying36, by kernel_rfl, fields_ok (by kernel_rfl)⟩, info_ok (zs := ((leafTypes tt depth 36).map (zeroV tt))) (by kernel_rfl) (by kernel_rfl), fun _ => by kernel_rfl, ⟨by decide, by decide⟩⟩
theorem fact38 : TFact Try.prog tt 38 ⟨.struct [(0, 36), (8, 29), (9, 22), (10, 22), (11, 3), (12, 3), (13, 3)], 14, 184⟩ := ⟨⟨_, Try.underlying38, by kernel_rfl, fields_ok (by kernel_rfl)⟩, info_ok (zs := ((leafTypes tt depth 38).map (zeroV tt))) (by kernel_rfl) (by kernel_rfl), fun _ => by kernel_rfl, ⟨by decide, by decide⟩⟩
theorem fact57 : TFact Try.prog tt 57 ⟨.slice 5, 1, 24⟩ := ⟨Try.underlying57, info_ok (zs := ((leafTypes tt depth 57).map (zeroV tt))) (by kernel_rfl) (by kernel_rfl), fun _ => by kernel_rfl, ⟨by decide, by decide⟩⟩
theorem fact107 : TFact Try.prog tt 107 ⟨.ptr 129, 1, 8⟩ := ⟨Try.underlying107, info_ok (zs := ((leafTypes tt depth 107).map (zeroV tt))) (by kernel_rfl) (by kernel_rfl), fun _ => by kernel_rfl, ⟨by decide, by decide⟩⟩
theorem fact110 : TFact Try.prog tt 110 ⟨.array 52 4, 52, 52⟩ := ⟨Try.underlying110, info_ok (zs := (List.replicate 52 (zeroV tt 4))) (by kernel_rfl) (by kernel_rfl), fun h => absurd rfl (h _ _), ⟨by decide, by decide⟩⟩
theorem fact129 : TFact Try.prog tt 129 ⟨.struct [(0, 57), (1, 3), (2, 3)], 3, 40⟩ := ⟨⟨_, Try.underlying129, by kernel_rfl, fields_ok (by kernel_rfl)⟩, info_ok (zs := ((leafTypes tt depth 129).map (zeroV tt))) (by kernel_rfl) (by kernel_rfl), fun _ => by kernel_rfl, ⟨by decide, by decide⟩⟩
theorem fact138 : TFact Try.prog tt 138 ⟨.slice 4, 1, 24⟩ := ⟨Try.underlying138, info_ok (zs := ((leafTypes tt depth 138).map (zeroV tt))) (by kernel_rfl) (by kernel_rfl), fun _ => by kernel_rfl, ⟨by decide, by decide⟩⟩
theorem tok : TOK Try.prog tt := TOK_of (all_cons fact3 (all_cons fact4 (all_cons fact5 (all_cons fact22 (all_cons fact29 (all_cons fact36 (all_cons fact38 (all_cons fact57 (all_cons fact107 (all_cons fact110 (all_cons fact129 (all_cons fact138 all_nil))))))))))))
theorem mixed : Try.prog.follows .mixedOrders = true := by kernel_rfl
def kd36 : List LK := [.I, .I, .bool, .bool, .V, .V, .I, .I]
def kd38 : List LK := [.I, .I, .bool, .bool, .V, .V, .I, .I, .rows, .V, .V, .I, .I, .I]
def kd129 : List LK := [(.ints .u8), .I, .I]
end Go.Proofs.Ytfmmdbnkeadieaa.M
