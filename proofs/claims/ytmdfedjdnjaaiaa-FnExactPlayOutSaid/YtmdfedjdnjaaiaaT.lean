/- The types of the program, as the evaluator reads them. Printed by a program. -/
import Derived.Test.YtmdfedjdnjaaiaaVShape
import Derived.Test.YtmdfedjdnjaaiaaProg
set_option linter.unusedVariables false
namespace Go.Proofs.Ytmdfedjdnjaaiaa.M
open Go Go.Proofs.Ytmdfedjdnjaaiaa.V
def tl : List (Nat × TE) := [(3, ⟨.int .i64, 1, 8⟩), (4, ⟨.bool, 1, 1⟩), (22, ⟨.slice 3, 1, 24⟩), (24, ⟨.struct [(0, 3), (1, 3), (2, 4), (3, 4), (4, 22), (5, 22), (6, 3), (7, 3)], 8, 88⟩), (25, ⟨.slice 22, 1, 24⟩), (27, ⟨.struct [(0, 24), (8, 25), (9, 22), (10, 22), (11, 3), (12, 3), (13, 3)], 14, 184⟩), (29, ⟨.struct [(0, 3), (1, 3), (2, 4), (3, 4), (4, 22), (5, 22), (6, 3), (7, 3)], 8, 88⟩), (31, ⟨.struct [(0, 29), (8, 25), (9, 22), (10, 22), (11, 3), (12, 3), (13, 3)], 14, 184⟩), (41, ⟨.struct [(0, 24), (8, 22), (9, 4), (10, 22), (11, 27), (25, 22), (26, 25)], 27, 376⟩), (45, ⟨.struct [(0, 29), (8, 22), (9, 4), (10, 22), (11, 31), (25, 22), (26, 25)], 27, 376⟩), (85, ⟨.array 52 4, 52, 52⟩), (87, ⟨.slice 4, 1, 24⟩)]
def tt : TT := V.look tl
theorem fact3 : TFact Try.prog tt 3 ⟨.int .i64, 1, 8⟩ := ⟨Try.underlying3, info_ok (zs := ((leafTypes tt depth 3).map (zeroV tt))) (by kernel_rfl) (by kernel_rfl), fun _ => by kernel_rfl, ⟨by decide, by decide⟩⟩
theorem fact4 : TFact Try.prog tt 4 ⟨.bool, 1, 1⟩ := ⟨Try.underlying4, info_ok (zs := ((leafTypes tt depth 4).map (zeroV tt))) (by kernel_rfl) (by kernel_rfl), fun _ => by kernel_rfl, ⟨by decide, by decide⟩⟩
theorem fact22 : TFact Try.prog tt 22 ⟨.slice 3, 1, 24⟩ := ⟨Try.underlying22, info_ok (zs := ((leafTypes tt depth 22).map (zeroV tt))) (by kernel_rfl) (by kernel_rfl), fun _ => by kernel_rfl, ⟨by decide, by decide⟩⟩
theorem fact24 : TFact Try.prog tt 24 ⟨.struct [(0, 3), (1, 3), (2, 4), (3, 4), (4, 22), (5, 22), (6, 3), (7, 3)], 8, 88⟩ := ⟨⟨_, Try.underlying24, by kernel_rfl, fields_ok (by kernel_rfl)⟩, info_ok (zs := ((leafTypes tt depth 24).map (zeroV tt))) (by kernel_rfl) (by kernel_rfl), fun _ => by kernel_rfl, ⟨by decide, by decide⟩⟩
theorem fact25 : TFact Try.prog tt 25 ⟨.slice 22, 1, 24⟩ := ⟨Try.underlying25, info_ok (zs := ((leafTypes tt depth 25).map (zeroV tt))) (by kernel_rfl) (by kernel_rfl), fun _ => by kernel_rfl, ⟨by decide, by decide⟩⟩
theorem fact27 : TFact Try.prog tt 27 ⟨.struct [(0, 24), (8, 25), (9, 22), (10, 22), (11, 3), (12, 3), (13, 3)], 14, 184⟩ := ⟨⟨_, Try.underlying27, by kernel_rfl, fields_ok (by kernel_rfl)⟩, info_ok (zs := ((leafTypes tt depth 27).map (zeroV tt))) (by kernel_rfl) (by kernel_rfl), fun _ => by kernel_rfl, ⟨by decide, by decide⟩⟩
theorem fact29 : TFact Try.prog tt 29 ⟨.struct [(0, 3), (1, 3), (2, 4), (3, 4), (4, 22), (5, 22), (6, 3), (7, 3)], 8, 88⟩ := ⟨⟨_, Try.underlying29, by kernel_rfl, fields_ok (by kernel_rfl)⟩, info_ok (zs := ((leafTypes tt depth 29).map (zeroV tt))) (by kernel_rfl) (by kernel_rfl), fun _ => by kernel_rfl, ⟨by decide, by decide⟩⟩
theorem fact31 : TFact Try.prog tt 31 ⟨.struct [(0, 29), (8, 25), (9, 22), (10, 22), (11, 3), (12, 3), (13, 3)], 14, 184⟩ := ⟨⟨_, Try.underlying31, by kernel_rfl, fields_ok (by kernel_rfl)⟩, info_ok (zs := ((leafTypes tt depth 31).map (zeroV tt))) (by kernel_rfl) (by kernel_rfl), fun _ => by kernel_rfl, ⟨by decide, by decide⟩⟩
theorem fact41 : TFact Try.prog tt 41 ⟨.struct [(0, 24), (8, 22), (9, 4), (10, 22), (11, 27), (25, 22), (26, 25)], 27, 376⟩ := ⟨⟨_, Try.underlying41, by kernel_rfl, fields_ok (by kernel_rfl)⟩, info_ok (zs := ((leafTypes tt depth 41).map (zeroV tt))) (by kernel_rfl) (by kernel_rfl), fun _ => by kernel_rfl, ⟨by decide, by decide⟩⟩
theorem fact45 : TFact Try.prog tt 45 ⟨.struct [(0, 29), (8, 22), (9, 4), (10, 22), (11, 31), (25, 22), (26, 25)], 27, 376⟩ := ⟨⟨_, Try.underlying45, by kernel_rfl, fields_ok (by kernel_rfl)⟩, info_ok (zs := ((leafTypes tt depth 45).map (zeroV tt))) (by kernel_rfl) (by kernel_rfl), fun _ => by kernel_rfl, ⟨by decide, by decide⟩⟩
theorem fact85 : TFact Try.prog tt 85 ⟨.array 52 4, 52, 52⟩ := ⟨Try.underlying85, info_ok (zs := (List.replicate 52 (zeroV tt 4))) (by kernel_rfl) (by kernel_rfl), fun h => absurd rfl (h _ _), ⟨by decide, by decide⟩⟩
theorem fact87 : TFact Try.prog tt 87 ⟨.slice 4, 1, 24⟩ := ⟨Try.underlying87, info_ok (zs := ((leafTypes tt depth 87).map (zeroV tt))) (by kernel_rfl) (by kernel_rfl), fun _ => by kernel_rfl, ⟨by decide, by decide⟩⟩
theorem tok : TOK Try.prog tt := TOK_of (all_cons fact3 (all_cons fact4 (all_cons fact22 (all_cons fact24 (all_cons fact25 (all_cons fact27 (all_cons fact29 (all_cons fact31 (all_cons fact41 (all_cons fact45 (all_cons fact85 (all_cons fact87 all_nil))))))))))))
theorem mixed : Try.prog.follows .mixedOrders = true := by kernel_rfl
def kd24 : List LK := [.I, .I, .bool, .bool, .V, .V, .I, .I]
def kd27 : List LK := [.I, .I, .bool, .bool, .V, .V, .I, .I, .rows, .V, .V, .I, .I, .I]
def kd41 : List LK := [.I, .I, .bool, .bool, .V, .V, .I, .I, .V, .bool, .V, .I, .I, .bool, .bool, .V, .V, .I, .I, .rows, .V, .V, .I, .I, .I, .V, .rows]
end Go.Proofs.Ytmdfedjdnjaaiaa.M
