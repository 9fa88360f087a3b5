/- The law FnSteps answers true for every input and leaves it as it was: the walk of the row. Conditions: as the given row states. -/
import Derived.Test.YtbmmhdmljajcfaaGreatDoorCloFnSteps
import Derived.Test.YtbmmhdmljajcfaaGreatDoorRows
import Derived.Test.YtbmmhdmljajcfaaGreatDoorVLaw
import Derived.Test.YtbmmhdmljajcfaaGreatDoorMFnSteps
import Derived.Test.YtbmmhdmljajcfaaGreatDoorPP1
import Derived.WalkKit
import Derived.ProofKit
import Derived.OpenShut
import Derived.ShutString
import Derived.ChangeOld
import Derived.Below
import Derived.SizedLaws
import Derived.Test.YtbmmhdmljajcfaaGreatDoorCards
import Derived.Test.YtbmmhdmljajcfaaGreatDoorTie
import Derived.LaidMore
import Derived.Stop.Joined
import Derived.Lib.LaidTab
import Derived.SevenTiedAt
set_option linter.unusedVariables false
set_option linter.unusedSimpArgs false
open Go
namespace Go.Proofs.YtbmmhdmljajcfaaGreatDoor.nu
open Go.ChangeShapes Go.WideShapes Go.ChangeAt Go.RowKit
open Go.ChangeMaps (open_string shut_string)
set_option linter.unusedVariables false
abbrev DW:List (String×DataW Unit):=[("math/bits.deBruijn32tab",Rows.laid_math_bits_deBruijn32tab),("math/bits.deBruijn64tab",Rows.laid_math_bits_deBruijn64tab),("internal/strconv.uint64pow10",Rows.laid_internal_strconv_uint64pow10),("strconv.ErrRange",Rows.laid_strconv_ErrRange),("strconv.ErrSyntax",Rows.laid_strconv_ErrSyntax)]
theorem KE (os:Os) (args:Array Value):laidMetH Tryz.prog DW ((World.doorLaid Tryz.prog 62 os).forCall (fun _ _=>0) ⟨#[],args,[]⟩).memory:=
 laidMetH_of_parts3 (fuel:=8) (laidMet_of_run' 8 (by kernel_rfl) (by kernel_rfl)) (by kernel_rfl) (by kernel_rfl)
theorem gT:Tryz.prog.globalNamed "internal/strconv.uint64pow10" =some 3:=by kernel_rfl
theorem Wj:(Tryz.prog.globals[3]?).map (·.type)=some 232:=by kernel_rfl
theorem uT:Tryz.prog.underlying 232=some (.array 20 220):=by kernel_rfl
theorem uE:Tryz.prog.underlying 220=some (.int .u64):=by kernel_rfl
theorem KF {W:World} (h:laidMetH Tryz.prog DW W):V.Ground Tryz.prog W (V.nQ W):=by
 rw[MakeChecks.laidMetH_plain _ _ _ (by kernel_rfl)] at h
 obtain ⟨ps,⟨g0,t0,XL,f0,p0,q0,P3,XM,Vj,XN,⟨g1,t1,XO,f1,p1,q1,Vk,Tn,DX,XP,⟨g2,t2,XQ,f2,p2,q2,Wk,Wl,Ip,Wm,⟨g3,t3,XR,f3,p3,q3,XS,XT,XU,XV,⟨g4,t4,XW,f4,p4,q4,Wn,Wo,Vl,Wp,_,_⟩,_⟩,_⟩,_⟩,_⟩,_,_⟩:=h
 obtain rfl:=Option.some.inj (gT.symm.trans Wk)
 obtain rfl:=Option.some.inj (Wj.symm.trans Wl)
 refine ⟨?_,?_⟩
 ·have hc:=Lib.cells_of_tab (k:= .u64) (zs:=Lib.pow10Tab) uT uE (by kernel_rfl) (by kernel_rfl) Wm
  intro b hb
  obtain rfl:=Option.some.inj (gT.symm.trans hb)
  refine ⟨V.KG gT Ip,?_⟩
  rw[show V.qD= "internal/strconv.uint64pow10" from rfl,Ip]
  exact congrArg some (Array.toArray_toList.symm.trans (congrArg List.toArray hc))
 ·intro b hb
  have gE:Tryz.prog.globalNamed "strconv.ErrSyntax" =some 1:=by kernel_rfl
  obtain rfl:=Option.some.inj (gE.symm.trans Wn)
  obtain rfl:=Option.some.inj ((show (Tryz.prog.globals[1]?).map (·.type)=some 155 by kernel_rfl).symm.trans Wo)
  obtain rfl:=Option.some.inj (gE.symm.trans hb)
  obtain ⟨u,x,np⟩:=V.GZ Tryz.underlying155 Wp
  refine ⟨V.KG gE Vl,u,x,?_⟩
  rw[show V.yg= "strconv.ErrSyntax" from rfl,Vl]
  exact congrArg some (Array.toArray_toList.symm.trans (congrArg List.toArray np))
set_option maxRecDepth 100000 in
theorem lifted (os:Os) (started:os.Started) (H:Type) (enc:TypeId×Value->H):
 ReturnsInHanded {} Tryz.checked os 4 .any (fun w args=>(Rows.fnStepsSpec.pre enc Tryz.prog Tryz.f4 [] false w args/\laidMetH Tryz.prog DW w)/\sizedMet enc Tryz.prog Tryz.f4 (OpenSpec.ofChange Rows.fnStepsSpec) false w args) (Rows.fnStepsSpec.post enc Tryz.prog Tryz.f4 false true false false):=by
 refine returnsInHanded_of_change_and (C:=Tryz.checked) (X:=fun w _=>laidMetH Tryz.prog DW w) (fun _ _ _ hh h=>h.of_heap hh) own started (by kernel_rfl) Tryz.func4
  (ChangeSpec.witness_shaped (enc:=enc) (C:=Tryz.checked) (os:=os) (X:=fun w _=>laidMetH Tryz.prog DW w) false (World.doorLaid Tryz.prog 62 os) #[.slice none 0 0] 8 rfl (World.shaped_of_RefB (by kernel_rfl) (by kernel_rfl)) (by kernel_rfl) (by kernel_rfl) (by kernel_rfl) (KE os _)) ?_
 intro W base args ds gs before Rv hW _ _ hL _
 have yz: ∀(j:Nat) t v,Tryz.f4.params[j]? =some t->args[j]? =some v->Value.okWide Tryz.prog W .any base t v:=Rv
 have Wq:=hW
 obtain ⟨p,q,Wr,hV,rfl,P4,oV⟩:=hW
 have hA:DataW.TrodAll enc Tryz.prog W 0 (fun _=>true) true Tryz.f4.params.toList args.toList ds p:=Wr
 obtain ⟨rfl,rfl⟩:=trodVars_none hV
 rw[Tryz.params4] at hA yz
 obtain ⟨uc,hrel,TW⟩:=V.Bq M.tok (Zf:=V.nQ W) (ts:=[42]) (by kernel_rfl) (fun j t v e1 e2=>yz j t v (by simpa using e1) (by simpa using e2)) (show DataW.TrodAll enc Tryz.prog W 0 (fun _=>true) true [42] args.toList ds p from hA)
 obtain ⟨v0,XX,t0,XY,p0,q0,fj,rfl,rfl,h0,r0⟩:=trodAll_cons hA
 obtain ⟨rfl,rfl,rfl⟩:=trodAll_nil r0
 obtain rfl:args= #[v0]:=by cases args;simp_all
 have Ws: ∀x∈p0,x.block<W.heap.size:=by obtain ⟨m,hm⟩:=h0;exact DataW.trod_lt m _ _ _ hm
 obtain ⟨d0,XZ,rfl,Wt,TX⟩:=V.Jb TW
 obtain ⟨e0,rfl,Wu⟩:=V.Rw (by kernel_rfl) Wt
 obtain ⟨x0,rfl,i0,j0⟩:=V.KH (k:= .u8) (show M.tt 42=some ⟨.slice 5,1,24⟩ by kernel_rfl) (by kernel_rfl) Wu
 obtain rfl:=V.KI TX
 have hc:=(aw.ay V.cO).2 (x0,()) true (aw.eq (Nat.le_refl _) j0 i0)
 refine (V.AP (KF hL) rfl hc (V.KJ hrel)).mono fun e W' ⟨he,ub⟩=> ?_
 subst he
 exact ⟨_,rfl,_,_,_,[],_,[],Wq,trodAll_mk1 (shut_bool Tryz.underlying4 _),(trodAll_cons_mk (Below.trod laidOut (by kernel_rfl) (of_decide_eq_true (by kernel_rfl)) h0 ub Ws) trodAll_mk0),rfl,ub.frame _,fun h=>by cases h⟩
theorem over:Rows.fnStepsRow.holds Tryz.pinned (OpenSpec.ofChange Rows.fnStepsSpec):=
 OpenClaim.holds_of_wide 4 Tryz.f4 rfl rfl rfl rfl rfl rfl rfl ⟨rfl,rfl,rfl,rfl,rfl⟩ rfl rfl rfl rfl rfl (by kernel_rfl) Tryz.func4 closed
  (of_decide_eq_true (by kernel_rfl)) (by unfold Func.isWrapper;first| (rw[if_pos (by decide+kernel)];kernel_rfl)| (rw[if_neg (by decide+kernel)];exact ⟨rfl,rfl⟩))
  (fun os started H enc _=>lifted os started H enc)
end Go.Proofs.YtbmmhdmljajcfaaGreatDoor.nu
