/- The types of the program, as the evaluator reads them. Printed by a program. -/
import Derived.Test.YtbmmhdmljajcfaaGreatDoorTg
import Derived.Test.YtbmmhdmljajcfaaGreatDoorVShape
import Derived.Test.YtbmmhdmljajcfaaGreatDoorProg
set_option linter.unusedVariables false
namespace Go.Proofs.YtbmmhdmljajcfaaGreatDoor.M
open Go Go.Proofs.YtbmmhdmljajcfaaGreatDoor.V
def tl:List (Nat×TE):=[(3,⟨.int .i64,1,8⟩),(4,⟨.bool,1,1⟩),(5,⟨.int .u8,1,1⟩),(9,⟨.str,1,16⟩),(22,⟨.slice 3,1,24⟩),(24,⟨.struct [(0,3),(1,3),(2,4),(3,4),(4,22),(5,22),(6,3),(7,3)],8,88⟩),(25,⟨.slice 22,1,24⟩),(27,⟨.struct [(0,24),(8,25),(9,22),(10,22),(11,3),(12,3),(13,3)],14,184⟩),(29,⟨.struct [(0,24),(8,22),(9,4),(10,22),(11,27),(25,22),(26,25)],27,376⟩),(31,⟨.struct [(0,3),(1,3),(2,4),(3,4),(4,22),(5,22),(6,3),(7,3)],8,88⟩),(33,⟨.struct [(0,31),(8,25),(9,22),(10,22),(11,3),(12,3),(13,3)],14,184⟩),(35,⟨.struct [(0,31),(8,22),(9,4),(10,22),(11,33),(25,22),(26,25)],27,376⟩),(42,⟨.slice 5,1,24⟩),(57,⟨.slice 9,1,24⟩),(155,⟨.err,1,16⟩),(160,⟨.slice 163,1,24⟩),(163,⟨.struct [(0,3),(1,3),(2,22),(3,22)],4,64⟩),(169,⟨.struct [(0,3),(1,22),(2,3),(3,3),(4,3),(5,22),(6,3),(7,3)],8,96⟩),(185,⟨.array 52 4,52,52⟩),(201,⟨.slice 4,1,24⟩),(225,⟨.array 13 3,13,104⟩)]
def tt:TT:=V.look tl
theorem Z9:pE Tryz.prog tt 3 ⟨.int .i64,1,8⟩:=⟨Tryz.underlying3,lH (zs:=((bn tt depth 3).map (zeroV tt))) (by kernel_rfl) (by kernel_rfl),fun _=>by kernel_rfl,⟨by decide,by decide⟩⟩
theorem Z_:pE Tryz.prog tt 4 ⟨.bool,1,1⟩:=⟨Tryz.underlying4,lH (zs:=((bn tt depth 4).map (zeroV tt))) (by kernel_rfl) (by kernel_rfl),fun _=>by kernel_rfl,⟨by decide,by decide⟩⟩
theorem aaa:pE Tryz.prog tt 5 ⟨.int .u8,1,1⟩:=⟨Tryz.underlying5,lH (zs:=((bn tt depth 5).map (zeroV tt))) (by kernel_rfl) (by kernel_rfl),fun _=>by kernel_rfl,⟨by decide,by decide⟩⟩
theorem aab:pE Tryz.prog tt 9 ⟨.str,1,16⟩:=⟨Tryz.underlying9,lH (zs:=((bn tt depth 9).map (zeroV tt))) (by kernel_rfl) (by kernel_rfl),fun _=>by kernel_rfl,⟨by decide,by decide⟩⟩
theorem XP:pE Tryz.prog tt 22 ⟨.slice 3,1,24⟩:=⟨Tryz.underlying22,lH (zs:=((bn tt depth 22).map (zeroV tt))) (by kernel_rfl) (by kernel_rfl),fun _=>by kernel_rfl,⟨by decide,by decide⟩⟩
theorem adL:pE Tryz.prog tt 24 ⟨.struct [(0,3),(1,3),(2,4),(3,4),(4,22),(5,22),(6,3),(7,3)],8,88⟩:=⟨⟨_,Tryz.underlying24,by kernel_rfl,uZ (by kernel_rfl)⟩,lH (zs:=((bn tt depth 24).map (zeroV tt))) (by kernel_rfl) (by kernel_rfl),fun _=>by kernel_rfl,⟨by decide,by decide⟩⟩
theorem XQ:pE Tryz.prog tt 25 ⟨.slice 22,1,24⟩:=⟨Tryz.underlying25,lH (zs:=((bn tt depth 25).map (zeroV tt))) (by kernel_rfl) (by kernel_rfl),fun _=>by kernel_rfl,⟨by decide,by decide⟩⟩
theorem adM:pE Tryz.prog tt 27 ⟨.struct [(0,24),(8,25),(9,22),(10,22),(11,3),(12,3),(13,3)],14,184⟩:=⟨⟨_,Tryz.underlying27,by kernel_rfl,uZ (by kernel_rfl)⟩,lH (zs:=((bn tt depth 27).map (zeroV tt))) (by kernel_rfl) (by kernel_rfl),fun _=>by kernel_rfl,⟨by decide,by decide⟩⟩
theorem adN:pE Tryz.prog tt 29 ⟨.struct [(0,24),(8,22),(9,4),(10,22),(11,27),(25,22),(26,25)],27,376⟩:=⟨⟨_,Tryz.underlying29,by kernel_rfl,uZ (by kernel_rfl)⟩,lH (zs:=((bn tt depth 29).map (zeroV tt))) (by kernel_rfl) (by kernel_rfl),fun _=>by kernel_rfl,⟨by decide,by decide⟩⟩
theorem XR:pE Tryz.prog tt 31 ⟨.struct [(0,3),(1,3),(2,4),(3,4),(4,22),(5,22),(6,3),(7,3)],8,88⟩:=⟨⟨_,Tryz.underlying31,by kernel_rfl,uZ (by kernel_rfl)⟩,lH (zs:=((bn tt depth 31).map (zeroV tt))) (by kernel_rfl) (by kernel_rfl),fun _=>by kernel_rfl,⟨by decide,by decide⟩⟩
theorem XS:pE Tryz.prog tt 33 ⟨.struct [(0,31),(8,25),(9,22),(10,22),(11,3),(12,3),(13,3)],14,184⟩:=⟨⟨_,Tryz.underlying33,by kernel_rfl,uZ (by kernel_rfl)⟩,lH (zs:=((bn tt depth 33).map (zeroV tt))) (by kernel_rfl) (by kernel_rfl),fun _=>by kernel_rfl,⟨by decide,by decide⟩⟩
theorem XT:pE Tryz.prog tt 35 ⟨.struct [(0,31),(8,22),(9,4),(10,22),(11,33),(25,22),(26,25)],27,376⟩:=⟨⟨_,Tryz.underlying35,by kernel_rfl,uZ (by kernel_rfl)⟩,lH (zs:=((bn tt depth 35).map (zeroV tt))) (by kernel_rfl) (by kernel_rfl),fun _=>by kernel_rfl,⟨by decide,by decide⟩⟩
theorem XU:pE Tryz.prog tt 42 ⟨.slice 5,1,24⟩:=⟨Tryz.underlying42,lH (zs:=((bn tt depth 42).map (zeroV tt))) (by kernel_rfl) (by kernel_rfl),fun _=>by kernel_rfl,⟨by decide,by decide⟩⟩
theorem XV:pE Tryz.prog tt 57 ⟨.slice 9,1,24⟩:=⟨Tryz.underlying57,lH (zs:=((bn tt depth 57).map (zeroV tt))) (by kernel_rfl) (by kernel_rfl),fun _=>by kernel_rfl,⟨by decide,by decide⟩⟩
theorem Vg:pE Tryz.prog tt 155 ⟨.err,1,16⟩:=⟨⟨_,Tryz.underlying155⟩,lH (zs:=((bn tt depth 155).map (zeroV tt))) (by kernel_rfl) (by kernel_rfl),fun _=>by kernel_rfl,⟨by decide,by decide⟩⟩
theorem Vh:pE Tryz.prog tt 160 ⟨.slice 163,1,24⟩:=⟨Tryz.underlying160,lH (zs:=((bn tt depth 160).map (zeroV tt))) (by kernel_rfl) (by kernel_rfl),fun _=>by kernel_rfl,⟨by decide,by decide⟩⟩
theorem Vi:pE Tryz.prog tt 163 ⟨.struct [(0,3),(1,3),(2,22),(3,22)],4,64⟩:=⟨⟨_,Tryz.underlying163,by kernel_rfl,uZ (by kernel_rfl)⟩,lH (zs:=((bn tt depth 163).map (zeroV tt))) (by kernel_rfl) (by kernel_rfl),fun _=>by kernel_rfl,⟨by decide,by decide⟩⟩
theorem Vj:pE Tryz.prog tt 169 ⟨.struct [(0,3),(1,22),(2,3),(3,3),(4,3),(5,22),(6,3),(7,3)],8,96⟩:=⟨⟨_,Tryz.underlying169,by kernel_rfl,uZ (by kernel_rfl)⟩,lH (zs:=((bn tt depth 169).map (zeroV tt))) (by kernel_rfl) (by kernel_rfl),fun _=>by kernel_rfl,⟨by decide,by decide⟩⟩
theorem Vk:pE Tryz.prog tt 185 ⟨.array 52 4,52,52⟩:=⟨Tryz.underlying185,lH (zs:=(List.replicate 52 (zeroV tt 4))) (by kernel_rfl) (by kernel_rfl),fun h=>absurd rfl (h _ _),⟨by decide,by decide⟩⟩
theorem Vl:pE Tryz.prog tt 201 ⟨.slice 4,1,24⟩:=⟨Tryz.underlying201,lH (zs:=((bn tt depth 201).map (zeroV tt))) (by kernel_rfl) (by kernel_rfl),fun _=>by kernel_rfl,⟨by decide,by decide⟩⟩
theorem Vm:pE Tryz.prog tt 225 ⟨.array 13 3,13,104⟩:=⟨Tryz.underlying225,lH (zs:=(List.replicate 13 (zeroV tt 3))) (by kernel_rfl) (by kernel_rfl),fun h=>absurd rfl (h _ _),⟨by decide,by decide⟩⟩
theorem tok:qc Tryz.prog tt:=XW (all_cons Z9 (all_cons Z_ (all_cons aaa (all_cons aab (all_cons XP (all_cons adL (all_cons XQ (all_cons adM (all_cons adN (all_cons XR (all_cons XS (all_cons XT (all_cons XU (all_cons XV (all_cons Vg (all_cons Vh (all_cons Vi (all_cons Vj (all_cons Vk (all_cons Vl (all_cons Vm all_nil)))))))))))))))))))))
theorem mixed:Tryz.prog.follows .mixedOrders=true:=by kernel_rfl
def Ps:List LK:=[.I,.I,.bool,.bool,.V,.V,.I,.I]
def Dt:List LK:=[.I,.I,.bool,.bool,.V,.V,.I,.I,.rows,.V,.V,.I,.I,.I]
def qU:List LK:=[.I,.I,.bool,.bool,.V,.V,.I,.I,.V,.bool,.V,.I,.I,.bool,.bool,.V,.V,.I,.I,.rows,.V,.V,.I,.I,.I,.V,.rows]
def Wi:List LK:=[.I,.I,.V,.V]
def O0:List LK:=[.I,.V,.I,.I,.I,.V,.I,.I]
abbrev Ct (S:Sp) (F:Nat->zr S.pk (Option S.Y)):Prop:= ∀k,Hm Tryz.prog S (F k)
theorem c0 {S:Sp} {F:zr S.pk (Option S.Y)} {fn:Func} (nt:Nat) (cs:List (Ce Tryz.prog)) (hf:Tryz.prog.funcs[S.f]? =some fn) (hp:pre fn S.sig (bd fn)=(some (bd fn),[],nt,true,S.sig.results.length,false):=by kernel_rfl) (he: ∀x,NW (SX tt (NY S.Y cs) nt) [] noL S.sig fn (Cf S.pk x) (Vn S.rk)=ug S.pk F x:=by intro x;kernel_rfl):Hm Tryz.prog S F:=SY tok (Ew cs) mixed hf hp all_nil he
theorem c1 {S:Sp} {F:zr S.pk (Option S.Y)} {fn:Func} (nt:Nat) (cs:List (Ce Tryz.prog)) (live:List (Nat×List Nat)) (Vo:List (Lh S.Y)) (hf:Tryz.prog.funcs[S.f]? =some fn) (hl: ∀b∈bls fn 0 Vo.length,Fit (SX tt (NY S.Y cs) nt) live (SZ Vo) b) (hp:pre fn S.sig (bd fn)=(some (bd fn),bls fn 0 Vo.length,nt,true,S.sig.results.length,false):=by kernel_rfl) (he: ∀x,NW (SX tt (NY S.Y cs) nt) live (SZ Vo) S.sig fn (Cf S.pk x) (Vn S.rk)=ug S.pk F x:=by intro x;kernel_rfl):Hm Tryz.prog S F:=SY tok (Ew cs) mixed hf hp hl he
abbrev CtM (S:Sp) (F:Nat->zr S.pk (Option S.YM)):Prop:= ∀k,S0 Tryz.prog S (F k)
theorem c1M {S:Sp} {F:zr S.pk (Option S.YM)} {fn:Func} (nt:Nat) (cs:List (Ce Tryz.prog)) (live:List (Nat×List Nat)) (Vo:List (Lh S.YM)) (hf:Tryz.prog.funcs[S.f]? =some fn) (hl: ∀b∈bls fn 0 Vo.length,Fit (SX tt (NY S.YM cs) nt) live (SZ Vo) b) (hp:pre fn S.sig (bd fn)=(some (bd fn),bls fn 0 Vo.length,nt,true,S.sig.results.length,false):=by kernel_rfl) (he: ∀x,NW (SX tt (NY S.YM cs) nt) live (SZ Vo) S.sig fn (Cf S.pk x) (Vp S.rk)=ug S.pk F x:=by intro x;kernel_rfl):S0 Tryz.prog S F:=Vq tok (Ew cs) mixed hf hp hl he
