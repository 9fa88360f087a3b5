/- The types of the program, as the evaluator reads them. Printed by a program. -/
import Derived.Test.YtfbafmeeejmgoaaGreatVShape
import Derived.Test.YtfbafmeeejmgoaaGreatProg
set_option linter.unusedVariables false
namespace Go.Proofs.YtfbafmeeejmgoaaGreat.M
open Go Go.Proofs.YtfbafmeeejmgoaaGreat.V
def tl : List (Nat × TE) := [(3, ⟨.int .i64, 1, 8⟩), (4, ⟨.bool, 1, 1⟩), (5, ⟨.int .u8, 1, 1⟩), (22, ⟨.slice 5, 1, 24⟩), (24, ⟨.slice 32, 1, 24⟩), (31, ⟨.slice 65, 1, 24⟩), (32, ⟨.slice 3, 1, 24⟩), (34, ⟨.struct [(0, 31), (1, 32), (2, 32), (3, 32)], 4, 96⟩), (38, ⟨.struct [(0, 3), (1, 3), (2, 4), (3, 4), (4, 32), (5, 32), (6, 3), (7, 3)], 8, 88⟩), (65, ⟨.struct [(0, 32), (1, 3)], 2, 32⟩), (78, ⟨.ptr 108, 1, 8⟩), (99, ⟨.array 52 4, 52, 52⟩), (108, ⟨.struct [(0, 22), (1, 3), (2, 3)], 3, 40⟩), (115, ⟨.slice 4, 1, 24⟩)]
def tt : TT := V.look tl
theorem fact3 : TFact Tryz.prog tt 3 ⟨.int .i64, 1, 8⟩ := ⟨Tryz.underlying3, info_ok (zs := ((leafTypes tt depth 3).map (zeroV tt))) (by kernel_rfl) (by kernel_rfl), fun _ => by kernel_rfl, ⟨by decide, by decide⟩⟩
theorem fact4 : TFact Tryz.prog tt 4 ⟨.bool, 1, 1⟩ := ⟨Tryz.underlying4, info_ok (zs := ((leafTypes tt depth 4).map (zeroV tt))) (by kernel_rfl) (by kernel_rfl), fun _ => by kernel_rfl, ⟨by decide, by decide⟩⟩
theorem fact5 : TFact Tryz.prog tt 5 ⟨.int .u8, 1, 1⟩ := ⟨Tryz.underlying5, info_ok (zs := ((leafTypes tt depth 5).map (zeroV tt))) (by kernel_rfl) (by kernel_rfl), fun _ => by kernel_rfl, ⟨by decide, by decide⟩⟩
theorem fact22 : TFact Tryz.prog tt 22 ⟨.slice 5, 1, 24⟩ := ⟨Tryz.underlying22, info_ok (zs := ((leafTypes tt depth 22).map (zeroV tt))) (by kernel_rfl) (by kernel_rfl), fun _ => by kernel_rfl, ⟨by decide, by decide⟩⟩
theorem fact24 : TFact Tryz.prog tt 24 ⟨.slice 32, 1, 24⟩ := ⟨Tryz.underlying24, info_ok (zs := ((leafTypes tt depth 24).map (zeroV tt))) (by kernel_rfl) (by kernel_rfl), fun _ => by kernel_rfl, ⟨by decide, by decide⟩⟩
theorem fact31 : TFact Tryz.prog tt 31 ⟨.slice 65, 1, 24⟩ := ⟨Tryz.underlying31, info_ok (zs := ((leafTypes tt depth 31).map (zeroV tt))) (by kernel_rfl) (by kernel_rfl), fun _ => by kernel_rfl, ⟨by decide, by decide⟩⟩
theorem fact32 : TFact Tryz.prog tt 32 ⟨.slice 3, 1, 24⟩ := ⟨Tryz.underlying32, info_ok (zs := ((leafTypes tt depth 32).map (zeroV tt))) (by kernel_rfl) (by kernel_rfl), fun _ => by kernel_rfl, ⟨by decide, by decide⟩⟩
theorem fact34 : TFact Tryz.prog tt 34 ⟨.struct [(0, 31), (1, 32), (2, 32), (3, 32)], 4, 96⟩ := ⟨⟨_, Tryz.underlying34, by kernel_rfl, fields_ok (by kernel_rfl)⟩, info_ok (zs := ((leafTypes tt depth 34).map (zeroV tt))) (by kernel_rfl) (by kernel_rfl), fun _ => by kernel_rfl, ⟨by decide, by decide⟩⟩
theorem fact38 : TFact Tryz.prog tt 38 ⟨.struct [(0, 3), (1, 3), (2, 4), (3, 4), (4, 32), (5, 32), (6, 3), (7, 3)], 8, 88⟩ := ⟨⟨_, Tryz.underlying38, by kernel_rfl, fields_ok (by kernel_rfl)⟩, info_ok (zs := ((leafTypes tt depth 38).map (zeroV tt))) (by kernel_rfl) (by kernel_rfl), fun _ => by kernel_rfl, ⟨by decide, by decide⟩⟩
theorem fact65 : TFact Tryz.prog tt 65 ⟨.struct [(0, 32), (1, 3)], 2, 32⟩ := ⟨⟨_, Tryz.underlying65, by kernel_rfl, fields_ok (by kernel_rfl)⟩, info_ok (zs := ((leafTypes tt depth 65).map (zeroV tt))) (by kernel_rfl) (by kernel_rfl), fun _ => by kernel_rfl, ⟨by decide, by decide⟩⟩
theorem fact78 : TFact Tryz.prog tt 78 ⟨.ptr 108, 1, 8⟩ := ⟨Tryz.underlying78, info_ok (zs := ((leafTypes tt depth 78).map (zeroV tt))) (by kernel_rfl) (by kernel_rfl), fun _ => by kernel_rfl, ⟨by decide, by decide⟩⟩
theorem fact99 : TFact Tryz.prog tt 99 ⟨.array 52 4, 52, 52⟩ := ⟨Tryz.underlying99, info_ok (zs := (List.replicate 52 (zeroV tt 4))) (by kernel_rfl) (by kernel_rfl), fun h => absurd rfl (h _ _), ⟨by decide, by decide⟩⟩
theorem fact108 : TFact Tryz.prog tt 108 ⟨.struct [(0, 22), (1, 3), (2, 3)], 3, 40⟩ := ⟨⟨_, Tryz.underlying108, by kernel_rfl, fields_ok (by kernel_rfl)⟩, info_ok (zs := ((leafTypes tt depth 108).map (zeroV tt))) (by kernel_rfl) (by kernel_rfl), fun _ => by kernel_rfl, ⟨by decide, by decide⟩⟩
theorem fact115 : TFact Tryz.prog tt 115 ⟨.slice 4, 1, 24⟩ := ⟨Tryz.underlying115, info_ok (zs := ((leafTypes tt depth 115).map (zeroV tt))) (by kernel_rfl) (by kernel_rfl), fun _ => by kernel_rfl, ⟨by decide, by decide⟩⟩
theorem tok : TOK Tryz.prog tt := TOK_of (all_cons fact3 (all_cons fact4 (all_cons fact5 (all_cons fact22 (all_cons fact24 (all_cons fact31 (all_cons fact32 (all_cons fact34 (all_cons fact38 (all_cons fact65 (all_cons fact78 (all_cons fact99 (all_cons fact108 (all_cons fact115 all_nil))))))))))))))
theorem mixed : Tryz.prog.follows .mixedOrders = true := by kernel_rfl
def kd34 : List LK := [(.recs [true, false]), .V, .V, .V]
def kd38 : List LK := [.I, .I, .bool, .bool, .V, .V, .I, .I]
def kd65 : List LK := [.V, .I]
def kd108 : List LK := [(.ints .u8), .I, .I]
end Go.Proofs.YtfbafmeeejmgoaaGreat.M
