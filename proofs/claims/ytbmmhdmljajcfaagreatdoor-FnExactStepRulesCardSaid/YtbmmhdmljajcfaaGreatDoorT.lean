/- The types of the program, as the evaluator reads them. Printed by a program. -/
import Derived.Test.YtbmmhdmljajcfaaGreatDoorVShape
import Derived.Test.YtbmmhdmljajcfaaGreatDoorProg
set_option linter.unusedVariables false
namespace Go.Proofs.YtbmmhdmljajcfaaGreatDoor.M
open Go Go.Proofs.YtbmmhdmljajcfaaGreatDoor.V
def tl:List (Nat×TE):=[(3,⟨.int .i64,1,8⟩),(4,⟨.bool,1,1⟩),(5,⟨.int .u8,1,1⟩),(9,⟨.str,1,16⟩),(22,⟨.slice 3,1,24⟩),(24,⟨.struct [(0,3),(1,3),(2,4),(3,4),(4,22),(5,22),(6,3),(7,3)],8,88⟩),(25,⟨.slice 22,1,24⟩),(27,⟨.struct [(0,24),(8,25),(9,22),(10,22),(11,3),(12,3),(13,3)],14,184⟩),(29,⟨.struct [(0,24),(8,22),(9,4),(10,22),(11,27),(25,22),(26,25)],27,376⟩),(31,⟨.struct [(0,3),(1,3),(2,4),(3,4),(4,22),(5,22),(6,3),(7,3)],8,88⟩),(33,⟨.struct [(0,31),(8,25),(9,22),(10,22),(11,3),(12,3),(13,3)],14,184⟩),(35,⟨.struct [(0,31),(8,22),(9,4),(10,22),(11,33),(25,22),(26,25)],27,376⟩),(42,⟨.slice 5,1,24⟩),(57,⟨.slice 9,1,24⟩),(155,⟨.err,1,16⟩),(185,⟨.array 52 4,52,52⟩),(201,⟨.slice 4,1,24⟩)]
def tt:TT:=V.look tl
theorem fact3:TFact Tryz.prog tt 3 ⟨.int .i64,1,8⟩:=⟨Tryz.underlying3,info_ok (zs:=((leafTypes tt depth 3).map (zeroV tt))) (by kernel_rfl) (by kernel_rfl),fun _=>by kernel_rfl,⟨by decide,by decide⟩⟩
theorem fact4:TFact Tryz.prog tt 4 ⟨.bool,1,1⟩:=⟨Tryz.underlying4,info_ok (zs:=((leafTypes tt depth 4).map (zeroV tt))) (by kernel_rfl) (by kernel_rfl),fun _=>by kernel_rfl,⟨by decide,by decide⟩⟩
theorem fact5:TFact Tryz.prog tt 5 ⟨.int .u8,1,1⟩:=⟨Tryz.underlying5,info_ok (zs:=((leafTypes tt depth 5).map (zeroV tt))) (by kernel_rfl) (by kernel_rfl),fun _=>by kernel_rfl,⟨by decide,by decide⟩⟩
theorem fact9:TFact Tryz.prog tt 9 ⟨.str,1,16⟩:=⟨Tryz.underlying9,info_ok (zs:=((leafTypes tt depth 9).map (zeroV tt))) (by kernel_rfl) (by kernel_rfl),fun _=>by kernel_rfl,⟨by decide,by decide⟩⟩
theorem fact22:TFact Tryz.prog tt 22 ⟨.slice 3,1,24⟩:=⟨Tryz.underlying22,info_ok (zs:=((leafTypes tt depth 22).map (zeroV tt))) (by kernel_rfl) (by kernel_rfl),fun _=>by kernel_rfl,⟨by decide,by decide⟩⟩
theorem fact24:TFact Tryz.prog tt 24 ⟨.struct [(0,3),(1,3),(2,4),(3,4),(4,22),(5,22),(6,3),(7,3)],8,88⟩:=⟨⟨_,Tryz.underlying24,by kernel_rfl,fields_ok (by kernel_rfl)⟩,info_ok (zs:=((leafTypes tt depth 24).map (zeroV tt))) (by kernel_rfl) (by kernel_rfl),fun _=>by kernel_rfl,⟨by decide,by decide⟩⟩
theorem fact25:TFact Tryz.prog tt 25 ⟨.slice 22,1,24⟩:=⟨Tryz.underlying25,info_ok (zs:=((leafTypes tt depth 25).map (zeroV tt))) (by kernel_rfl) (by kernel_rfl),fun _=>by kernel_rfl,⟨by decide,by decide⟩⟩
theorem fact27:TFact Tryz.prog tt 27 ⟨.struct [(0,24),(8,25),(9,22),(10,22),(11,3),(12,3),(13,3)],14,184⟩:=⟨⟨_,Tryz.underlying27,by kernel_rfl,fields_ok (by kernel_rfl)⟩,info_ok (zs:=((leafTypes tt depth 27).map (zeroV tt))) (by kernel_rfl) (by kernel_rfl),fun _=>by kernel_rfl,⟨by decide,by decide⟩⟩
theorem fact29:TFact Tryz.prog tt 29 ⟨.struct [(0,24),(8,22),(9,4),(10,22),(11,27),(25,22),(26,25)],27,376⟩:=⟨⟨_,Tryz.underlying29,by kernel_rfl,fields_ok (by kernel_rfl)⟩,info_ok (zs:=((leafTypes tt depth 29).map (zeroV tt))) (by kernel_rfl) (by kernel_rfl),fun _=>by kernel_rfl,⟨by decide,by decide⟩⟩
theorem fact31:TFact Tryz.prog tt 31 ⟨.struct [(0,3),(1,3),(2,4),(3,4),(4,22),(5,22),(6,3),(7,3)],8,88⟩:=⟨⟨_,Tryz.underlying31,by kernel_rfl,fields_ok (by kernel_rfl)⟩,info_ok (zs:=((leafTypes tt depth 31).map (zeroV tt))) (by kernel_rfl) (by kernel_rfl),fun _=>by kernel_rfl,⟨by decide,by decide⟩⟩
theorem fact33:TFact Tryz.prog tt 33 ⟨.struct [(0,31),(8,25),(9,22),(10,22),(11,3),(12,3),(13,3)],14,184⟩:=⟨⟨_,Tryz.underlying33,by kernel_rfl,fields_ok (by kernel_rfl)⟩,info_ok (zs:=((leafTypes tt depth 33).map (zeroV tt))) (by kernel_rfl) (by kernel_rfl),fun _=>by kernel_rfl,⟨by decide,by decide⟩⟩
theorem fact35:TFact Tryz.prog tt 35 ⟨.struct [(0,31),(8,22),(9,4),(10,22),(11,33),(25,22),(26,25)],27,376⟩:=⟨⟨_,Tryz.underlying35,by kernel_rfl,fields_ok (by kernel_rfl)⟩,info_ok (zs:=((leafTypes tt depth 35).map (zeroV tt))) (by kernel_rfl) (by kernel_rfl),fun _=>by kernel_rfl,⟨by decide,by decide⟩⟩
theorem fact42:TFact Tryz.prog tt 42 ⟨.slice 5,1,24⟩:=⟨Tryz.underlying42,info_ok (zs:=((leafTypes tt depth 42).map (zeroV tt))) (by kernel_rfl) (by kernel_rfl),fun _=>by kernel_rfl,⟨by decide,by decide⟩⟩
theorem fact57:TFact Tryz.prog tt 57 ⟨.slice 9,1,24⟩:=⟨Tryz.underlying57,info_ok (zs:=((leafTypes tt depth 57).map (zeroV tt))) (by kernel_rfl) (by kernel_rfl),fun _=>by kernel_rfl,⟨by decide,by decide⟩⟩
theorem fact155:TFact Tryz.prog tt 155 ⟨.err,1,16⟩:=⟨⟨_,Tryz.underlying155⟩,info_ok (zs:=((leafTypes tt depth 155).map (zeroV tt))) (by kernel_rfl) (by kernel_rfl),fun _=>by kernel_rfl,⟨by decide,by decide⟩⟩
theorem fact185:TFact Tryz.prog tt 185 ⟨.array 52 4,52,52⟩:=⟨Tryz.underlying185,info_ok (zs:=(List.replicate 52 (zeroV tt 4))) (by kernel_rfl) (by kernel_rfl),fun h=>absurd rfl (h _ _),⟨by decide,by decide⟩⟩
theorem fact201:TFact Tryz.prog tt 201 ⟨.slice 4,1,24⟩:=⟨Tryz.underlying201,info_ok (zs:=((leafTypes tt depth 201).map (zeroV tt))) (by kernel_rfl) (by kernel_rfl),fun _=>by kernel_rfl,⟨by decide,by decide⟩⟩
theorem tok:TOK Tryz.prog tt:=TOK_of (all_cons fact3 (all_cons fact4 (all_cons fact5 (all_cons fact9 (all_cons fact22 (all_cons fact24 (all_cons fact25 (all_cons fact27 (all_cons fact29 (all_cons fact31 (all_cons fact33 (all_cons fact35 (all_cons fact42 (all_cons fact57 (all_cons fact155 (all_cons fact185 (all_cons fact201 all_nil)))))))))))))))))
theorem mixed:Tryz.prog.follows .mixedOrders=true:=by kernel_rfl
def kd24:List LK:=[.I,.I,.bool,.bool,.V,.V,.I,.I]
def kd27:List LK:=[.I,.I,.bool,.bool,.V,.V,.I,.I,.rows,.V,.V,.I,.I,.I]
def kd29:List LK:=[.I,.I,.bool,.bool,.V,.V,.I,.I,.V,.bool,.V,.I,.I,.bool,.bool,.V,.V,.I,.I,.rows,.V,.V,.I,.I,.I,.V,.rows]
end Go.Proofs.YtbmmhdmljajcfaaGreatDoor.M
