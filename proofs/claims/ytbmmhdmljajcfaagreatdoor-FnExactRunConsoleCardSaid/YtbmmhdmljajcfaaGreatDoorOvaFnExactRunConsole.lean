/- The law FnExactRunConsole answers true for every input and leaves it as it was: the walk of the row. Conditions: as the given row states. -/
import Derived.Test.YtbmmhdmljajcfaaGreatDoorCloFnExactRunConsole
import Derived.Test.YtbmmhdmljajcfaaGreatDoorRows
import Derived.Test.YtbmmhdmljajcfaaGreatDoorVLaw
import Derived.Test.YtbmmhdmljajcfaaGreatDoorMFnExactRunConsole
import Derived.Test.YtbmmhdmljajcfaaGreatDoorPP2
import Derived.WalkKit
import Derived.ProofKit
import Derived.OpenShut
import Derived.ShutString
import Derived.ChangeOld
import Derived.Below
import Derived.SizedLaws
import Derived.Test.YtbmmhdmljajcfaaGreatDoorCards
import Derived.Test.YtbmmhdmljajcfaaGreatDoorTie
import Derived.LaidMore
import Derived.Stop.Joined
import Derived.Lib.LaidTab
import Derived.SevenTiedAt
set_option linter.unusedVariables false
set_option linter.unusedSimpArgs false
open Go
namespace Go.Proofs.YtbmmhdmljajcfaaGreatDoor.iX
open Go.ChangeShapes Go.WideShapes Go.ChangeAt Go.RowKit
open Go.ChangeMaps (open_string shut_string)
set_option linter.unusedVariables false
abbrev K6:List (String×DataW Unit):=[("math/bits.deBruijn32tab",Rows.laid_math_bits_deBruijn32tab),("math/bits.deBruijn64tab",Rows.laid_math_bits_deBruijn64tab),("internal/strconv.uint64pow10",Rows.laid_internal_strconv_uint64pow10),("strconv.ErrRange",Rows.laid_strconv_ErrRange),("strconv.ErrSyntax",Rows.laid_strconv_ErrSyntax)]
theorem Sh (os:Os) (args:Array Value):laidMetH Tryz.prog K6 ((World.doorLaid Tryz.prog 62 os).forCall (fun _ _=>0) ⟨#[],args,[]⟩).memory:=
 laidMetH_of_parts3 (fuel:=8) (laidMet_of_run' 8 (by kernel_rfl) (by kernel_rfl)) (by kernel_rfl) (by kernel_rfl)
theorem gT:Tryz.prog.globalNamed "internal/strconv.uint64pow10" =some 3:=by kernel_rfl
theorem gTy:(Tryz.prog.globals[3]?).map (·.type)=some 232:=by kernel_rfl
theorem uT:Tryz.prog.underlying 232=some (.array 20 220):=by kernel_rfl
theorem uE:Tryz.prog.underlying 220=some (.int .u64):=by kernel_rfl
theorem Si {W:World} (h:laidMetH Tryz.prog K6 W):V.Ground Tryz.prog W (V.wP W):=by
 rw[MakeChecks.laidMetH_plain _ _ _ (by kernel_rfl)] at h
 obtain ⟨ps,⟨g0,t0,cs0,f0,p0,q0,YZ,ht0,hv0,hd0,⟨g1,t1,cs1,f1,p1,q1,hg1,Wk,Jm,Xr,⟨g2,t2,cs2,f2,p2,q2,hg2,ht2,zc,hd2,⟨g3,t3,cs3,f3,p3,q3,hg3,ht3,hv3,hd3,⟨g4,t4,cs4,f4,p4,q4,hg4,ht4,hv4,hd4,_,_⟩,_⟩,_⟩,_⟩,_⟩,_,_⟩:=h
 obtain rfl:=Option.some.inj (gT.symm.trans hg2)
 obtain rfl:=Option.some.inj (gTy.symm.trans ht2)
 refine ⟨?_,?_⟩
 ·have hc:=Lib.cells_of_tab (k:= .u64) (zs:=Lib.pow10Tab) uT uE (by kernel_rfl) (by kernel_rfl) hd2
  intro b hb
  obtain rfl:=Option.some.inj (gT.symm.trans hb)
  refine ⟨V.Sj gT zc,?_⟩
  rw[show V.ye= "internal/strconv.uint64pow10" from rfl,zc]
  exact congrArg some (Array.toArray_toList.symm.trans (congrArg List.toArray hc))
 ·intro b hb
  have gE:Tryz.prog.globalNamed "strconv.ErrSyntax" =some 1:=by kernel_rfl
  obtain rfl:=Option.some.inj (gE.symm.trans hg4)
  obtain rfl:=Option.some.inj ((show (Tryz.prog.globals[1]?).map (·.type)=some 155 by kernel_rfl).symm.trans ht4)
  obtain rfl:=Option.some.inj (gE.symm.trans hb)
  obtain ⟨u,x,sf⟩:=V.Nn Tryz.underlying155 hd4
  refine ⟨V.Sj gE hv4,u,x,?_⟩
  rw[show V.En= "strconv.ErrSyntax" from rfl,hv4]
  exact congrArg some (Array.toArray_toList.symm.trans (congrArg List.toArray sf))
set_option maxRecDepth 100000 in
theorem lifted (os:Os) (started:os.Started) (H:Type) (enc:TypeId×Value->H):
 ReturnsInHanded {} Tryz.checked os 6 .any (fun w args=>(Rows.fnExactRunConsoleSpec.pre enc Tryz.prog Tryz.f6 [] false w args/\laidMetH Tryz.prog K6 w)/\sizedMet enc Tryz.prog Tryz.f6 (OpenSpec.ofChange Rows.fnExactRunConsoleSpec) false w args) (Rows.fnExactRunConsoleSpec.post enc Tryz.prog Tryz.f6 false true false false):=by
 refine returnsInHanded_of_change_and (C:=Tryz.checked) (X:=fun w _=>laidMetH Tryz.prog K6 w) (fun _ _ _ hh h=>h.of_heap hh) own started (by kernel_rfl) Tryz.func6
  (ChangeSpec.witness_shaped (enc:=enc) (C:=Tryz.checked) (os:=os) (X:=fun w _=>laidMetH Tryz.prog K6 w) false (World.doorLaid Tryz.prog 62 os) #[.string ByteArray.empty] 8 rfl (World.shaped_of_RefB (by kernel_rfl) (by kernel_rfl)) (by kernel_rfl) (by kernel_rfl) (by kernel_rfl) (Sh os _)) ?_
 intro W base args ds gs before ZM hW _ _ hL _
 have EL: ∀(j:Nat) t v,Tryz.f6.params[j]? =some t->args[j]? =some v->Value.okWide Tryz.prog W .any base t v:=ZM
 have hW':=hW
 obtain ⟨p,q,hA0,hV,rfl,Y0,sq⟩:=hW
 have hA:DataW.TrodAll enc Tryz.prog W 0 (fun _=>true) true Tryz.f6.params.toList args.toList ds p:=hA0
 obtain ⟨rfl,rfl⟩:=trodVars_none hV
 rw[Tryz.params6] at hA EL
 obtain ⟨Cf,hrel,abZ⟩:=V.H7 M.tok (Zf:=V.wP W) (ts:=[9]) (by kernel_rfl) (fun j t v e1 e2=>EL j t v (by simpa using e1) (by simpa using e2)) (show DataW.TrodAll enc Tryz.prog W 0 (fun _=>true) true [9] args.toList ds p from hA)
 obtain ⟨v0,vs0,t0,ts0,p0,q0,jX,rfl,rfl,h0,r0⟩:=trodAll_cons hA
 obtain ⟨rfl,rfl,rfl⟩:=trodAll_nil r0
 obtain rfl:args= #[v0]:=by cases args;simp_all
 have lt0: ∀x∈p0,x.block<W.heap.size:=by obtain ⟨m,hm⟩:=h0;exact DataW.trod_lt m _ _ _ hm
 obtain ⟨d0,ds0,rfl,oa0,ab0⟩:=V.P6 abZ
 obtain ⟨e0,rfl,ob0⟩:=V.ZN (by kernel_rfl) oa0
 obtain ⟨x0,rfl,i0⟩:=V.UY (show M.tt 9=some ⟨.str,1,16⟩ by kernel_rfl) ob0
 obtain rfl:=V.Sk ab0
 have hc:=(iN.aB V.cy).2 (x0,()) true (iN.eq (Nat.le_refl _) i0)
 refine (V.Hr (Si hL) rfl hc hrel).mono fun e W' ⟨he,wC⟩=> ?_
 subst he
 exact ⟨_,rfl,_,_,_,[],_,[],hW',trodAll_mk1 (shut_bool Tryz.underlying4 _),(trodAll_cons_mk (Below.trod laidOut (by kernel_rfl) (of_decide_eq_true (by kernel_rfl)) h0 wC lt0) trodAll_mk0),rfl,wC.frame _,fun h=>by cases h⟩
theorem over:Rows.fnExactRunConsoleRow.holds Tryz.pinned (OpenSpec.ofChange Rows.fnExactRunConsoleSpec):=
 OpenClaim.holds_of_wide 6 Tryz.f6 rfl rfl rfl rfl rfl rfl rfl ⟨rfl,rfl,rfl,rfl,rfl⟩ rfl rfl rfl rfl rfl (by kernel_rfl) Tryz.func6 closed
  (of_decide_eq_true (by kernel_rfl)) (by unfold Func.isWrapper;first| (rw[if_pos (by decide+kernel)];kernel_rfl)| (rw[if_neg (by decide+kernel)];exact ⟨rfl,rfl⟩))
  (fun os started H enc _=>lifted os started H enc)
end Go.Proofs.YtbmmhdmljajcfaaGreatDoor.iX
