/- The types of the program, as the evaluator reads them. Printed by a program. -/
import Derived.Test.YtfkejiljabmaaaaVShape
import Derived.Test.YtfkejiljabmaaaaProg
set_option linter.unusedVariables false
namespace Go.Proofs.Ytfkejiljabmaaaa.M
open Go Go.Proofs.Ytfkejiljabmaaaa.V
def tl : List (Nat × TE) := [(3, ⟨.int .i64, 1, 8⟩), (4, ⟨.bool, 1, 1⟩), (24, ⟨.slice 3, 1, 24⟩), (28, ⟨.slice 24, 1, 24⟩)]
def tt : TT := V.look tl
theorem fact3 : TFact Try.prog tt 3 ⟨.int .i64, 1, 8⟩ := ⟨Try.underlying3, info_ok (zs := ((leafTypes tt depth 3).map (zeroV tt))) (by kernel_rfl) (by kernel_rfl), fun _ => by kernel_rfl, ⟨by decide, by decide⟩⟩
theorem fact4 : TFact Try.prog tt 4 ⟨.bool, 1, 1⟩ := ⟨Try.underlying4, info_ok (zs := ((leafTypes tt depth 4).map (zeroV tt))) (by kernel_rfl) (by kernel_rfl), fun _ => by kernel_rfl, ⟨by decide, by decide⟩⟩
theorem fact24 : TFact Try.prog tt 24 ⟨.slice 3, 1, 24⟩ := ⟨Try.underlying24, info_ok (zs := ((leafTypes tt depth 24).map (zeroV tt))) (by kernel_rfl) (by kernel_rfl), fun _ => by kernel_rfl, ⟨by decide, by decide⟩⟩
theorem fact28 : TFact Try.prog tt 28 ⟨.slice 24, 1, 24⟩ := ⟨Try.underlying28, info_ok (zs := ((leafTypes tt depth 28).map (zeroV tt))) (by kernel_rfl) (by kernel_rfl), fun _ => by kernel_rfl, ⟨by decide, by decide⟩⟩
theorem tok : TOK Try.prog tt := TOK_of (all_cons fact3 (all_cons fact4 (all_cons fact24 (all_cons fact28 all_nil))))
theorem mixed : Try.prog.follows .mixedOrders = true := by kernel_rfl
end Go.Proofs.Ytfkejiljabmaaaa.M
