/- The types of the program, as the evaluator reads them. Printed by a program. -/
import Derived.Test.YtbmmhdmljajcfaaGreatDoorVShape
import Derived.Test.YtbmmhdmljajcfaaGreatDoorProg
set_option linter.unusedVariables false
namespace Go.Proofs.YtbmmhdmljajcfaaGreatDoor.M
open Go Go.Proofs.YtbmmhdmljajcfaaGreatDoor.V
def tl:List (Nat×TE):=[(3,⟨.int .i64,1,8⟩),(4,⟨.bool,1,1⟩),(5,⟨.int .u8,1,1⟩),(9,⟨.str,1,16⟩),(22,⟨.slice 3,1,24⟩),(25,⟨.slice 22,1,24⟩),(31,⟨.struct [(0,3),(1,3),(2,4),(3,4),(4,22),(5,22),(6,3),(7,3)],8,88⟩),(33,⟨.struct [(0,31),(8,25),(9,22),(10,22),(11,3),(12,3),(13,3)],14,184⟩),(35,⟨.struct [(0,31),(8,22),(9,4),(10,22),(11,33),(25,22),(26,25)],27,376⟩),(42,⟨.slice 5,1,24⟩),(57,⟨.slice 9,1,24⟩),(84,⟨.ptr 133,1,8⟩),(133,⟨.struct [(0,42),(1,3),(2,3)],3,40⟩),(155,⟨.err,1,16⟩),(185,⟨.array 52 4,52,52⟩),(201,⟨.slice 4,1,24⟩)]
def tt:TT:=V.look tl
theorem RJ:lg Tryz.prog tt 3 ⟨.int .i64,1,8⟩:=⟨Tryz.underlying3,ir (zs:=((aA tt depth 3).map (zeroV tt))) (by kernel_rfl) (by kernel_rfl),fun _=>by kernel_rfl,⟨by decide,by decide⟩⟩
theorem RL:lg Tryz.prog tt 4 ⟨.bool,1,1⟩:=⟨Tryz.underlying4,ir (zs:=((aA tt depth 4).map (zeroV tt))) (by kernel_rfl) (by kernel_rfl),fun _=>by kernel_rfl,⟨by decide,by decide⟩⟩
theorem RM:lg Tryz.prog tt 5 ⟨.int .u8,1,1⟩:=⟨Tryz.underlying5,ir (zs:=((aA tt depth 5).map (zeroV tt))) (by kernel_rfl) (by kernel_rfl),fun _=>by kernel_rfl,⟨by decide,by decide⟩⟩
theorem RN:lg Tryz.prog tt 9 ⟨.str,1,16⟩:=⟨Tryz.underlying9,ir (zs:=((aA tt depth 9).map (zeroV tt))) (by kernel_rfl) (by kernel_rfl),fun _=>by kernel_rfl,⟨by decide,by decide⟩⟩
theorem OP:lg Tryz.prog tt 22 ⟨.slice 3,1,24⟩:=⟨Tryz.underlying22,ir (zs:=((aA tt depth 22).map (zeroV tt))) (by kernel_rfl) (by kernel_rfl),fun _=>by kernel_rfl,⟨by decide,by decide⟩⟩
theorem OQ:lg Tryz.prog tt 25 ⟨.slice 22,1,24⟩:=⟨Tryz.underlying25,ir (zs:=((aA tt depth 25).map (zeroV tt))) (by kernel_rfl) (by kernel_rfl),fun _=>by kernel_rfl,⟨by decide,by decide⟩⟩
theorem OR:lg Tryz.prog tt 31 ⟨.struct [(0,3),(1,3),(2,4),(3,4),(4,22),(5,22),(6,3),(7,3)],8,88⟩:=⟨⟨_,Tryz.underlying31,by kernel_rfl,qI (by kernel_rfl)⟩,ir (zs:=((aA tt depth 31).map (zeroV tt))) (by kernel_rfl) (by kernel_rfl),fun _=>by kernel_rfl,⟨by decide,by decide⟩⟩
theorem OS:lg Tryz.prog tt 33 ⟨.struct [(0,31),(8,25),(9,22),(10,22),(11,3),(12,3),(13,3)],14,184⟩:=⟨⟨_,Tryz.underlying33,by kernel_rfl,qI (by kernel_rfl)⟩,ir (zs:=((aA tt depth 33).map (zeroV tt))) (by kernel_rfl) (by kernel_rfl),fun _=>by kernel_rfl,⟨by decide,by decide⟩⟩
theorem OT:lg Tryz.prog tt 35 ⟨.struct [(0,31),(8,22),(9,4),(10,22),(11,33),(25,22),(26,25)],27,376⟩:=⟨⟨_,Tryz.underlying35,by kernel_rfl,qI (by kernel_rfl)⟩,ir (zs:=((aA tt depth 35).map (zeroV tt))) (by kernel_rfl) (by kernel_rfl),fun _=>by kernel_rfl,⟨by decide,by decide⟩⟩
theorem OU:lg Tryz.prog tt 42 ⟨.slice 5,1,24⟩:=⟨Tryz.underlying42,ir (zs:=((aA tt depth 42).map (zeroV tt))) (by kernel_rfl) (by kernel_rfl),fun _=>by kernel_rfl,⟨by decide,by decide⟩⟩
theorem OV:lg Tryz.prog tt 57 ⟨.slice 9,1,24⟩:=⟨Tryz.underlying57,ir (zs:=((aA tt depth 57).map (zeroV tt))) (by kernel_rfl) (by kernel_rfl),fun _=>by kernel_rfl,⟨by decide,by decide⟩⟩
theorem OW:lg Tryz.prog tt 84 ⟨.ptr 133,1,8⟩:=⟨Tryz.underlying84,ir (zs:=((aA tt depth 84).map (zeroV tt))) (by kernel_rfl) (by kernel_rfl),fun _=>by kernel_rfl,⟨by decide,by decide⟩⟩
theorem M1:lg Tryz.prog tt 133 ⟨.struct [(0,42),(1,3),(2,3)],3,40⟩:=⟨⟨_,Tryz.underlying133,by kernel_rfl,qI (by kernel_rfl)⟩,ir (zs:=((aA tt depth 133).map (zeroV tt))) (by kernel_rfl) (by kernel_rfl),fun _=>by kernel_rfl,⟨by decide,by decide⟩⟩
theorem M2:lg Tryz.prog tt 155 ⟨.err,1,16⟩:=⟨⟨_,Tryz.underlying155⟩,ir (zs:=((aA tt depth 155).map (zeroV tt))) (by kernel_rfl) (by kernel_rfl),fun _=>by kernel_rfl,⟨by decide,by decide⟩⟩
theorem M3:lg Tryz.prog tt 185 ⟨.array 52 4,52,52⟩:=⟨Tryz.underlying185,ir (zs:=(List.replicate 52 (zeroV tt 4))) (by kernel_rfl) (by kernel_rfl),fun h=>absurd rfl (h _ _),⟨by decide,by decide⟩⟩
theorem M4:lg Tryz.prog tt 201 ⟨.slice 4,1,24⟩:=⟨Tryz.underlying201,ir (zs:=((aA tt depth 201).map (zeroV tt))) (by kernel_rfl) (by kernel_rfl),fun _=>by kernel_rfl,⟨by decide,by decide⟩⟩
theorem tok:kQ Tryz.prog tt:=OX (all_cons RJ (all_cons RL (all_cons RM (all_cons RN (all_cons OP (all_cons OQ (all_cons OR (all_cons OS (all_cons OT (all_cons OU (all_cons OV (all_cons OW (all_cons M1 (all_cons M2 (all_cons M3 (all_cons M4 all_nil))))))))))))))))
theorem mixed:Tryz.prog.follows .mixedOrders=true:=by kernel_rfl
def mi:List LK:=[.I,.I,.bool,.bool,.V,.V,.I,.I]
def iM:List LK:=[.I,.I,.bool,.bool,.V,.V,.I,.I,.rows,.V,.V,.I,.I,.I]
def fF:List LK:=[.I,.I,.bool,.bool,.V,.V,.I,.I,.V,.bool,.V,.I,.I,.bool,.bool,.V,.V,.I,.I,.rows,.V,.V,.I,.I,.I,.V,.rows]
def ji:List LK:=[(.ints .u8),.I,.I]
abbrev Ct (S:Sp) (F:Nat->tz S.pk (Option S.Y)):Prop:= ∀k,Ci Tryz.prog S (F k)
theorem c0 {S:Sp} {F:tz S.pk (Option S.Y)} {fn:Func} (nt:Nat) (cs:List (Ce Tryz.prog)) (hf:Tryz.prog.funcs[S.f]? =some fn) (hp:pre fn S.sig (bd fn)=(some (bd fn),[],nt,true,S.sig.results.length,false):=by kernel_rfl) (he: ∀x,Hn (Ho tt (CJ S.Y cs) nt) [] Qc S.sig fn (uc S.pk x) (Ew S.rk)=mU S.pk F x:=by intro x;kernel_rfl):Ci Tryz.prog S F:=K4 tok (uy cs) mixed hf hp all_nil he
theorem c2 {S:Sp} {F:tz S.pk (Option S.Y)} {fn:Func} (nt:Nat) (cs:List (Ce Tryz.prog)) (live:List (Nat×List Nat)) (key:Nat) (H:Hd) (U:H.Fn (Option S.Y)) (hf:Tryz.prog.funcs[S.f]? =some fn) (hp:pre fn S.sig (bd fn)=(some (bd fn),[],nt,true,S.sig.results.length,false):=by kernel_rfl) (ht:tA key (bd fn)=some (IB fn key):=by kernel_rfl) (hU: ∀x:H.Ty,ev (Ho tt (CJ S.Y cs) nt) live Qc (IB fn key) (fK live tt S.sig fn (Ew S.rk)) (cA (cutAt live key) (H.enc x).1 (H.enc x).2)=H.y7 U x:=by intro x;kernel_rfl) (he: ∀x,IC (Ho tt (CJ S.Y cs) nt) live Qc key (fun vs hs=>H.mq vs hs U) S.sig fn (uc S.pk x) (Ew S.rk)=mU S.pk F x:=by intro x;kernel_rfl):Ci Tryz.prog S F:=M5 tok (uy cs) mixed hf key H U hp ht hU he
theorem c1 {S:Sp} {F:tz S.pk (Option S.Y)} {fn:Func} (nt:Nat) (cs:List (Ce Tryz.prog)) (live:List (Nat×List Nat)) (M6:List (Lh S.Y)) (hf:Tryz.prog.funcs[S.f]? =some fn) (hl: ∀b∈RO fn 0 M6.length,Fit (Ho tt (CJ S.Y cs) nt) live (K5 M6) b) (hp:pre fn S.sig (bd fn)=(some (bd fn),RO fn 0 M6.length,nt,true,S.sig.results.length,false):=by kernel_rfl) (he: ∀x,Hn (Ho tt (CJ S.Y cs) nt) live (K5 M6) S.sig fn (uc S.pk x) (Ew S.rk)=mU S.pk F x:=by intro x;kernel_rfl):Ci Tryz.prog S F:=K4 tok (uy cs) mixed hf hp hl he
abbrev X5 (S:Sp) (F:Nat->tz S.pk (Option S.YM)):Prop:= ∀k,OY Tryz.prog S (F k)
theorem X6 {S:Sp} {F:tz S.pk (Option S.YM)} {fn:Func} (nt:Nat) (cs:List (Ce Tryz.prog)) (live:List (Nat×List Nat)) (M6:List (Lh S.YM)) (hf:Tryz.prog.funcs[S.f]? =some fn) (hl: ∀b∈RO fn 0 M6.length,Fit (Ho tt (CJ S.YM cs) nt) live (K5 M6) b) (hp:pre fn S.sig (bd fn)=(some (bd fn),RO fn 0 M6.length,nt,true,S.sig.results.length,false):=by kernel_rfl) (he: ∀x,Hn (Ho tt (CJ S.YM cs) nt) live (K5 M6) S.sig fn (uc S.pk x) (M7 S.rk)=mU S.pk F x:=by intro x;kernel_rfl):OY Tryz.prog S F:=M8 tok (uy cs) mixed hf hp hl he
end Go.Proofs.YtbmmhdmljajcfaaGreatDoor.M
