/- The types of the program, as the evaluator reads them. Printed by a program. -/
import Derived.Test.YtbmmhdmljajcfaaGreatDoorVShape
import Derived.Test.YtbmmhdmljajcfaaGreatDoorProg
set_option linter.unusedVariables false
namespace Go.Proofs.YtbmmhdmljajcfaaGreatDoor.M
open Go Go.Proofs.YtbmmhdmljajcfaaGreatDoor.V
def tl:List (Nat×TE):=[(3,⟨.int .i64,1,8⟩),(4,⟨.bool,1,1⟩),(5,⟨.int .u8,1,1⟩),(9,⟨.str,1,16⟩),(22,⟨.slice 3,1,24⟩),(25,⟨.slice 22,1,24⟩),(31,⟨.struct [(0,3),(1,3),(2,4),(3,4),(4,22),(5,22),(6,3),(7,3)],8,88⟩),(33,⟨.struct [(0,31),(8,25),(9,22),(10,22),(11,3),(12,3),(13,3)],14,184⟩),(35,⟨.struct [(0,31),(8,22),(9,4),(10,22),(11,33),(25,22),(26,25)],27,376⟩),(42,⟨.slice 5,1,24⟩),(57,⟨.slice 9,1,24⟩),(84,⟨.ptr 133,1,8⟩),(133,⟨.struct [(0,42),(1,3),(2,3)],3,40⟩),(155,⟨.err,1,16⟩),(160,⟨.slice 163,1,24⟩),(163,⟨.struct [(0,3),(1,3),(2,22),(3,22)],4,64⟩),(169,⟨.struct [(0,3),(1,22),(2,3),(3,3),(4,3),(5,22),(6,3),(7,3)],8,96⟩),(185,⟨.array 52 4,52,52⟩),(201,⟨.slice 4,1,24⟩),(225,⟨.array 13 3,13,104⟩)]
def tt:TT:=V.look tl
theorem WE:lz Tryz.prog tt 3 ⟨.int .i64,1,8⟩:=⟨Tryz.underlying3,iB (zs:=((aK tt depth 3).map (zeroV tt))) (by kernel_rfl) (by kernel_rfl),fun _=>by kernel_rfl,⟨by decide,by decide⟩⟩
theorem WG:lz Tryz.prog tt 4 ⟨.bool,1,1⟩:=⟨Tryz.underlying4,iB (zs:=((aK tt depth 4).map (zeroV tt))) (by kernel_rfl) (by kernel_rfl),fun _=>by kernel_rfl,⟨by decide,by decide⟩⟩
theorem WH:lz Tryz.prog tt 5 ⟨.int .u8,1,1⟩:=⟨Tryz.underlying5,iB (zs:=((aK tt depth 5).map (zeroV tt))) (by kernel_rfl) (by kernel_rfl),fun _=>by kernel_rfl,⟨by decide,by decide⟩⟩
theorem WI:lz Tryz.prog tt 9 ⟨.str,1,16⟩:=⟨Tryz.underlying9,iB (zs:=((aK tt depth 9).map (zeroV tt))) (by kernel_rfl) (by kernel_rfl),fun _=>by kernel_rfl,⟨by decide,by decide⟩⟩
theorem Ua:lz Tryz.prog tt 22 ⟨.slice 3,1,24⟩:=⟨Tryz.underlying22,iB (zs:=((aK tt depth 22).map (zeroV tt))) (by kernel_rfl) (by kernel_rfl),fun _=>by kernel_rfl,⟨by decide,by decide⟩⟩
theorem Ub:lz Tryz.prog tt 25 ⟨.slice 22,1,24⟩:=⟨Tryz.underlying25,iB (zs:=((aK tt depth 25).map (zeroV tt))) (by kernel_rfl) (by kernel_rfl),fun _=>by kernel_rfl,⟨by decide,by decide⟩⟩
theorem Uc:lz Tryz.prog tt 31 ⟨.struct [(0,3),(1,3),(2,4),(3,4),(4,22),(5,22),(6,3),(7,3)],8,88⟩:=⟨⟨_,Tryz.underlying31,by kernel_rfl,oS (by kernel_rfl)⟩,iB (zs:=((aK tt depth 31).map (zeroV tt))) (by kernel_rfl) (by kernel_rfl),fun _=>by kernel_rfl,⟨by decide,by decide⟩⟩
theorem Ud:lz Tryz.prog tt 33 ⟨.struct [(0,31),(8,25),(9,22),(10,22),(11,3),(12,3),(13,3)],14,184⟩:=⟨⟨_,Tryz.underlying33,by kernel_rfl,oS (by kernel_rfl)⟩,iB (zs:=((aK tt depth 33).map (zeroV tt))) (by kernel_rfl) (by kernel_rfl),fun _=>by kernel_rfl,⟨by decide,by decide⟩⟩
theorem Ue:lz Tryz.prog tt 35 ⟨.struct [(0,31),(8,22),(9,4),(10,22),(11,33),(25,22),(26,25)],27,376⟩:=⟨⟨_,Tryz.underlying35,by kernel_rfl,oS (by kernel_rfl)⟩,iB (zs:=((aK tt depth 35).map (zeroV tt))) (by kernel_rfl) (by kernel_rfl),fun _=>by kernel_rfl,⟨by decide,by decide⟩⟩
theorem Uf:lz Tryz.prog tt 42 ⟨.slice 5,1,24⟩:=⟨Tryz.underlying42,iB (zs:=((aK tt depth 42).map (zeroV tt))) (by kernel_rfl) (by kernel_rfl),fun _=>by kernel_rfl,⟨by decide,by decide⟩⟩
theorem Ug:lz Tryz.prog tt 57 ⟨.slice 9,1,24⟩:=⟨Tryz.underlying57,iB (zs:=((aK tt depth 57).map (zeroV tt))) (by kernel_rfl) (by kernel_rfl),fun _=>by kernel_rfl,⟨by decide,by decide⟩⟩
theorem Uh:lz Tryz.prog tt 84 ⟨.ptr 133,1,8⟩:=⟨Tryz.underlying84,iB (zs:=((aK tt depth 84).map (zeroV tt))) (by kernel_rfl) (by kernel_rfl),fun _=>by kernel_rfl,⟨by decide,by decide⟩⟩
theorem Rr:lz Tryz.prog tt 133 ⟨.struct [(0,42),(1,3),(2,3)],3,40⟩:=⟨⟨_,Tryz.underlying133,by kernel_rfl,oS (by kernel_rfl)⟩,iB (zs:=((aK tt depth 133).map (zeroV tt))) (by kernel_rfl) (by kernel_rfl),fun _=>by kernel_rfl,⟨by decide,by decide⟩⟩
theorem Rs:lz Tryz.prog tt 155 ⟨.err,1,16⟩:=⟨⟨_,Tryz.underlying155⟩,iB (zs:=((aK tt depth 155).map (zeroV tt))) (by kernel_rfl) (by kernel_rfl),fun _=>by kernel_rfl,⟨by decide,by decide⟩⟩
theorem Rt:lz Tryz.prog tt 160 ⟨.slice 163,1,24⟩:=⟨Tryz.underlying160,iB (zs:=((aK tt depth 160).map (zeroV tt))) (by kernel_rfl) (by kernel_rfl),fun _=>by kernel_rfl,⟨by decide,by decide⟩⟩
theorem Ru:lz Tryz.prog tt 163 ⟨.struct [(0,3),(1,3),(2,22),(3,22)],4,64⟩:=⟨⟨_,Tryz.underlying163,by kernel_rfl,oS (by kernel_rfl)⟩,iB (zs:=((aK tt depth 163).map (zeroV tt))) (by kernel_rfl) (by kernel_rfl),fun _=>by kernel_rfl,⟨by decide,by decide⟩⟩
theorem Rv:lz Tryz.prog tt 169 ⟨.struct [(0,3),(1,22),(2,3),(3,3),(4,3),(5,22),(6,3),(7,3)],8,96⟩:=⟨⟨_,Tryz.underlying169,by kernel_rfl,oS (by kernel_rfl)⟩,iB (zs:=((aK tt depth 169).map (zeroV tt))) (by kernel_rfl) (by kernel_rfl),fun _=>by kernel_rfl,⟨by decide,by decide⟩⟩
theorem Rw:lz Tryz.prog tt 185 ⟨.array 52 4,52,52⟩:=⟨Tryz.underlying185,iB (zs:=(List.replicate 52 (zeroV tt 4))) (by kernel_rfl) (by kernel_rfl),fun h=>absurd rfl (h _ _),⟨by decide,by decide⟩⟩
theorem Rx:lz Tryz.prog tt 201 ⟨.slice 4,1,24⟩:=⟨Tryz.underlying201,iB (zs:=((aK tt depth 201).map (zeroV tt))) (by kernel_rfl) (by kernel_rfl),fun _=>by kernel_rfl,⟨by decide,by decide⟩⟩
theorem Ry:lz Tryz.prog tt 225 ⟨.array 13 3,13,104⟩:=⟨Tryz.underlying225,iB (zs:=(List.replicate 13 (zeroV tt 3))) (by kernel_rfl) (by kernel_rfl),fun h=>absurd rfl (h _ _),⟨by decide,by decide⟩⟩
theorem tok:mW Tryz.prog tt:=Ui (all_cons WE (all_cons WG (all_cons WH (all_cons WI (all_cons Ua (all_cons Ub (all_cons Uc (all_cons Ud (all_cons Ue (all_cons Uf (all_cons Ug (all_cons Uh (all_cons Rr (all_cons Rs (all_cons Rt (all_cons Ru (all_cons Rv (all_cons Rw (all_cons Rx (all_cons Ry all_nil))))))))))))))))))))
theorem mixed:Tryz.prog.follows .mixedOrders=true:=by kernel_rfl
def ov:List LK:=[.I,.I,.bool,.bool,.V,.V,.I,.I]
def jV:List LK:=[.I,.I,.bool,.bool,.V,.V,.I,.I,.rows,.V,.V,.I,.I,.I]
def gF:List LK:=[.I,.I,.bool,.bool,.V,.V,.I,.I,.V,.bool,.V,.I,.I,.bool,.bool,.V,.V,.I,.I,.rows,.V,.V,.I,.I,.I,.V,.rows]
def kV:List LK:=[(.ints .u8),.I,.I]
def Wd:List LK:=[.I,.I,.V,.V]
def Sw:List LK:=[.I,.V,.I,.I,.I,.V,.I,.I]
abbrev Ct (S:Sp) (F:Nat->vl S.pk (Option S.Y)):Prop:= ∀k,G3 Tryz.prog S (F k)
theorem c0 {S:Sp} {F:vl S.pk (Option S.Y)} {fn:Func} (nt:Nat) (cs:List (Ce Tryz.prog)) (hf:Tryz.prog.funcs[S.f]? =some fn) (hp:pre fn S.sig (bd fn)=(some (bd fn),[],nt,true,S.sig.results.length,false):=by kernel_rfl) (he: ∀x,J5 (PB tt (J6 S.Y cs) nt) [] noL S.sig fn (yq S.pk x) (Rz S.rk)=qt S.pk F x:=by intro x;kernel_rfl):G3 Tryz.prog S F:=PC tok (AU cs) mixed hf hp all_nil he
theorem c1 {S:Sp} {F:vl S.pk (Option S.Y)} {fn:Func} (nt:Nat) (cs:List (Ce Tryz.prog)) (live:List (Nat×List Nat)) (RA:List (Lh S.Y)) (hf:Tryz.prog.funcs[S.f]? =some fn) (hl: ∀b∈WJ fn 0 RA.length,Fit (PB tt (J6 S.Y cs) nt) live (PD RA) b) (hp:pre fn S.sig (bd fn)=(some (bd fn),WJ fn 0 RA.length,nt,true,S.sig.results.length,false):=by kernel_rfl) (he: ∀x,J5 (PB tt (J6 S.Y cs) nt) live (PD RA) S.sig fn (yq S.pk x) (Rz S.rk)=qt S.pk F x:=by intro x;kernel_rfl):G3 Tryz.prog S F:=PC tok (AU cs) mixed hf hp hl he
abbrev CtM (S:Sp) (F:Nat->vl S.pk (Option S.YM)):Prop:= ∀k,PE Tryz.prog S (F k)
theorem c1M {S:Sp} {F:vl S.pk (Option S.YM)} {fn:Func} (nt:Nat) (cs:List (Ce Tryz.prog)) (live:List (Nat×List Nat)) (RA:List (Lh S.YM)) (hf:Tryz.prog.funcs[S.f]? =some fn) (hl: ∀b∈WJ fn 0 RA.length,Fit (PB tt (J6 S.YM cs) nt) live (PD RA) b) (hp:pre fn S.sig (bd fn)=(some (bd fn),WJ fn 0 RA.length,nt,true,S.sig.results.length,false):=by kernel_rfl) (he: ∀x,J5 (PB tt (J6 S.YM cs) nt) live (PD RA) S.sig fn (yq S.pk x) (RB S.rk)=qt S.pk F x:=by intro x;kernel_rfl):PE Tryz.prog S F:=RD tok (AU cs) mixed hf hp hl he
end Go.Proofs.YtbmmhdmljajcfaaGreatDoor.M
