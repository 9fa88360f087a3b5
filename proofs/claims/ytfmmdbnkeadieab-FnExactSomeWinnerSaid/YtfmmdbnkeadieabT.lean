/- The types of the program, as the evaluator reads them. Printed by a program. -/
import Derived.Test.YtfmmdbnkeadieabVShape
import Derived.Test.YtfmmdbnkeadieabProg
set_option linter.unusedVariables false
namespace Go.Proofs.Ytfmmdbnkeadieab.M
open Go Go.Proofs.Ytfmmdbnkeadieab.V
def tl : List (Nat × TE) := [(3, ⟨.int .i64, 1, 8⟩), (4, ⟨.bool, 1, 1⟩), (22, ⟨.slice 3, 1, 24⟩), (24, ⟨.struct [(0, 3), (1, 3), (2, 4), (3, 4), (4, 22), (5, 22), (6, 3), (7, 3)], 8, 88⟩), (27, ⟨.struct [(0, 3), (1, 3), (2, 4), (3, 4), (4, 22), (5, 22), (6, 3), (7, 3)], 8, 88⟩), (36, ⟨.slice 22, 1, 24⟩), (38, ⟨.struct [(0, 27), (8, 36), (9, 22), (10, 22), (11, 3), (12, 3), (13, 3)], 14, 184⟩), (62, ⟨.array 52 4, 52, 52⟩), (69, ⟨.slice 4, 1, 24⟩)]
def tt : TT := V.look tl
theorem fact3 : TFact Try.prog tt 3 ⟨.int .i64, 1, 8⟩ := ⟨Try.underlying3, info_ok (zs := ((leafTypes tt depth 3).map (zeroV tt))) (by kernel_rfl) (by kernel_rfl), fun _ => by kernel_rfl, ⟨by decide, by decide⟩⟩
theorem fact4 : TFact Try.prog tt 4 ⟨.bool, 1, 1⟩ := ⟨Try.underlying4, info_ok (zs := ((leafTypes tt depth 4).map (zeroV tt))) (by kernel_rfl) (by kernel_rfl), fun _ => by kernel_rfl, ⟨by decide, by decide⟩⟩
theorem fact22 : TFact Try.prog tt 22 ⟨.slice 3, 1, 24⟩ := ⟨Try.underlying22, info_ok (zs := ((leafTypes tt depth 22).map (zeroV tt))) (by kernel_rfl) (by kernel_rfl), fun _ => by kernel_rfl, ⟨by decide, by decide⟩⟩
theorem fact24 : TFact Try.prog tt 24 ⟨.struct [(0, 3), (1, 3), (2, 4), (3, 4), (4, 22), (5, 22), (6, 3), (7, 3)], 8, 88⟩ := ⟨⟨_, Try.underlying24, by kernel_rfl, fields_ok (by kernel_rfl)⟩, info_ok (zs := ((leafTypes tt depth 24).map (zeroV tt))) (by kernel_rfl) (by kernel_rfl), fun _ => by kernel_rfl, ⟨by decide, by decide⟩⟩
theorem fact27 : TFact Try.prog tt 27 ⟨.struct [(0, 3), (1, 3), (2, 4), (3, 4), (4, 22), (5, 22), (6, 3), (7, 3)], 8, 88⟩ := ⟨⟨_, Try.underlying27, by kernel_rfl, fields_ok (by kernel_rfl)⟩, info_ok (zs := ((leafTypes tt depth 27).map (zeroV tt))) (by kernel_rfl) (by kernel_rfl), fun _ => by kernel_rfl, ⟨by decide, by decide⟩⟩
theorem fact36 : TFact Try.prog tt 36 ⟨.slice 22, 1, 24⟩ := ⟨Try.underlying36, info_ok (zs := ((leafTypes tt depth 36).map (zeroV tt))) (by kernel_rfl) (by kernel_rfl), fun _ => by kernel_rfl, ⟨by decide, by decide⟩⟩
theorem fact38 : TFact Try.prog tt 38 ⟨.struct [(0, 27), (8, 36), (9, 22), (10, 22), (11, 3), (12, 3), (13, 3)], 14, 184⟩ := ⟨⟨_, Try.underlying38, by kernel_rfl, fields_ok (by kernel_rfl)⟩, info_ok (zs := ((leafTypes tt depth 38).map (zeroV tt))) (by kernel_rfl) (by kernel_rfl), fun _ => by kernel_rfl, ⟨by decide, by decide⟩⟩
theorem fact62 : TFact Try.prog tt 62 ⟨.array 52 4, 52, 52⟩ := ⟨Try.underlying62, info_ok (zs := (List.replicate 52 (zeroV tt 4))) (by kernel_rfl) (by kernel_rfl), fun h => absurd rfl (h _ _), ⟨by decide, by decide⟩⟩
theorem fact69 : TFact Try.prog tt 69 ⟨.slice 4, 1, 24⟩ := ⟨Try.underlying69, info_ok (zs := ((leafTypes tt depth 69).map (zeroV tt))) (by kernel_rfl) (by kernel_rfl), fun _ => by kernel_rfl, ⟨by decide, by decide⟩⟩
theorem tok : TOK Try.prog tt := TOK_of (all_cons fact3 (all_cons fact4 (all_cons fact22 (all_cons fact24 (all_cons fact27 (all_cons fact36 (all_cons fact38 (all_cons fact62 (all_cons fact69 all_nil)))))))))
theorem mixed : Try.prog.follows .mixedOrders = true := by kernel_rfl
def kd24 : List LK := [.I, .I, .bool, .bool, .V, .V, .I, .I]
def kd38 : List LK := [.I, .I, .bool, .bool, .V, .V, .I, .I, .rows, .V, .V, .I, .I, .I]
end Go.Proofs.Ytfmmdbnkeadieab.M
