import Derived.Test.YtbmmhdmljajcfaaGreatDoorCloFnConsole
import Derived.Test.YtbmmhdmljajcfaaGreatDoorRows
import Derived.Test.YtbmmhdmljajcfaaGreatDoorVLaw
import Derived.Test.YtbmmhdmljajcfaaGreatDoorMFnConsole
import Derived.Test.YtbmmhdmljajcfaaGreatDoorPP1
import Derived.WalkKit
import Derived.ProofKit
import Derived.OpenShut
import Derived.ShutString
import Derived.ChangeOld
import Derived.Below
import Derived.SizedLaws
import Derived.Test.YtbmmhdmljajcfaaGreatDoorCards
import Derived.Test.YtbmmhdmljajcfaaGreatDoorTie
import Derived.LaidMore
import Derived.Stop.Joined
import Derived.Lib.LaidTab
import Derived.SevenTiedAt
set_option linter.unusedVariables false
set_option linter.unusedSimpArgs false
open Go
namespace Go.Proofs.YtbmmhdmljajcfaaGreatDoor.mw
open Go.ChangeShapes Go.WideShapes Go.ChangeAt Go.RowKit
open Go.ChangeMaps (open_string shut_string)
set_option linter.unusedVariables false
abbrev Hc:List (String×DataW Unit):=[("math/bits.deBruijn32tab",Rows.laid_math_bits_deBruijn32tab),("math/bits.deBruijn64tab",Rows.laid_math_bits_deBruijn64tab),("internal/strconv.uint64pow10",Rows.laid_internal_strconv_uint64pow10),("strconv.ErrRange",Rows.laid_strconv_ErrRange),("strconv.ErrSyntax",Rows.laid_strconv_ErrSyntax)]
theorem OI (os:Os) (args:Array Value):laidMetH Tryz.prog Hc ((World.doorLaid Tryz.prog 62 os).forCall (fun _ _=>0) ⟨#[],args,[]⟩).memory:=
 laidMetH_of_parts3 (fuel:=8) (laidMet_of_run' 8 (by kernel_rfl) (by kernel_rfl)) (by kernel_rfl) (by kernel_rfl)
theorem gT:Tryz.prog.globalNamed "internal/strconv.uint64pow10" =some 3:=by kernel_rfl
theorem gTy:(Tryz.prog.globals[3]?).map (·.type)=some 232:=by kernel_rfl
theorem uT:Tryz.prog.underlying 232=some (.array 20 220):=by kernel_rfl
theorem uE:Tryz.prog.underlying 220=some (.int .u64):=by kernel_rfl
theorem OK {W:World} (h:laidMetH Tryz.prog Hc W):V.Ground Tryz.prog W (V.qg W):=by
 rw[MakeChecks.laidMetH_plain _ _ _ (by kernel_rfl)] at h
 obtain ⟨ps,⟨g0,t0,cs0,f0,p0,q0,Vi,ht0,Z7,hd0,⟨g1,t1,cs1,f1,p1,q1,Z8,XW,ER,TC,⟨g2,t2,cs2,f2,p2,q2,hg2,ht2,KZ,hd2,⟨g3,t3,cs3,f3,p3,q3,hg3,ht3,hv3,hd3,⟨g4,t4,cs4,f4,p4,q4,hg4,ht4,Z9,hd4,_,_⟩,_⟩,_⟩,_⟩,_⟩,_,_⟩:=h
 obtain rfl:=Option.some.inj (gT.symm.trans hg2)
 obtain rfl:=Option.some.inj (gTy.symm.trans ht2)
 refine ⟨?_,?_⟩
 ·have hc:=Lib.cells_of_tab (k:= .u64) (zs:=Lib.pow10Tab) uT uE (by kernel_rfl) (by kernel_rfl) hd2
  intro b hb
  obtain rfl:=Option.some.inj (gT.symm.trans hb)
  refine ⟨V.OL gT KZ,?_⟩
  rw[show V.uk= "internal/strconv.uint64pow10" from rfl,KZ]
  exact congrArg some (Array.toArray_toList.symm.trans (congrArg List.toArray hc))
 ·intro b hb
  have gE:Tryz.prog.globalNamed "strconv.ErrSyntax" =some 1:=by kernel_rfl
  obtain rfl:=Option.some.inj (gE.symm.trans hg4)
  obtain rfl:=Option.some.inj ((show (Tryz.prog.globals[1]?).map (·.type)=some 155 by kernel_rfl).symm.trans ht4)
  obtain rfl:=Option.some.inj (gE.symm.trans hb)
  obtain ⟨u,x,oZ⟩:=V.Jv Tryz.underlying155 hd4
  refine ⟨V.OL gE Z9,u,x,?_⟩
  rw[show V.AL= "strconv.ErrSyntax" from rfl,Z9]
  exact congrArg some (Array.toArray_toList.symm.trans (congrArg List.toArray oZ))
set_option maxRecDepth 100000 in
theorem lifted (os:Os) (started:os.Started) (H:Type) (enc:TypeId×Value->H):
 ReturnsInHanded {} Tryz.checked os 5 .any (fun w args=>(Rows.fnConsoleSpec.pre enc Tryz.prog Tryz.f5 [] false w args/\laidMetH Tryz.prog Hc w)/\sizedMet enc Tryz.prog Tryz.f5 (OpenSpec.ofChange Rows.fnConsoleSpec) false w args) (Rows.fnConsoleSpec.post enc Tryz.prog Tryz.f5 false true false false):=by
 refine returnsInHanded_of_change_and (C:=Tryz.checked) (X:=fun w _=>laidMetH Tryz.prog Hc w) (fun _ _ _ hh h=>h.of_heap hh) own started (by kernel_rfl) Tryz.func5
  (ChangeSpec.witness_shaped (enc:=enc) (C:=Tryz.checked) (os:=os) (X:=fun w _=>laidMetH Tryz.prog Hc w) false (World.doorLaid Tryz.prog 62 os) #[.slice none 0 0] 8 rfl (World.shaped_of_RefB (by kernel_rfl) (by kernel_rfl)) (by kernel_rfl) (by kernel_rfl) (by kernel_rfl) (OI os _)) ?_
 intro W base args ds gs before Wj hW _ _ hL _
 have Bh: ∀(j:Nat) t v,Tryz.f5.params[j]? =some t->args[j]? =some v->Value.okWide Tryz.prog W .any base t v:=Wj
 have hW':=hW
 obtain ⟨p,q,hA0,hV,rfl,Vj,qh⟩:=hW
 have hA:DataW.TrodAll enc Tryz.prog W 0 (fun _=>true) true Tryz.f5.params.toList args.toList ds p:=hA0
 obtain ⟨rfl,rfl⟩:=trodVars_none hV
 rw[Tryz.params5] at hA Bh
 obtain ⟨yq,hrel,Yx⟩:=V.DG M.tok (Zf:=V.qg W) (ts:=[42]) (by kernel_rfl) (fun j t v e1 e2=>Bh j t v (by simpa using e1) (by simpa using e2)) (show DataW.TrodAll enc Tryz.prog W 0 (fun _=>true) true [42] args.toList ds p from hA)
 obtain ⟨v0,vs0,t0,ts0,p0,q0,gU,rfl,rfl,h0,r0⟩:=trodAll_cons hA
 obtain ⟨rfl,rfl,rfl⟩:=trodAll_nil r0
 obtain rfl:args= #[v0]:=by cases args;simp_all
 have lt0: ∀x∈p0,x.block<W.heap.size:=by obtain ⟨m,hm⟩:=h0;exact DataW.trod_lt m _ _ _ hm
 obtain ⟨d0,ds0,rfl,oa0,Yy⟩:=V.MG Yx
 obtain ⟨e0,rfl,ob0⟩:=V.Wk (by kernel_rfl) oa0
 obtain ⟨x0,rfl,i0,j0⟩:=V.OM (k:= .u8) (show M.tt 42=some ⟨.slice 5,1,24⟩ by kernel_rfl) (by kernel_rfl) ob0
 obtain rfl:=V.ON Yy
 have hc:=(aM.aq V.cO).2 (x0,()) true (aM.eq (Nat.le_refl _) j0 i0)
 refine (V.CZ (OK hL) rfl hc (V.OO hrel)).mono fun e W' ⟨he,sF⟩=> ?_
 subst he
 exact ⟨_,rfl,_,_,_,[],_,[],hW',trodAll_mk1 (shut_bool Tryz.underlying4 _),(trodAll_cons_mk (Below.trod laidOut (by kernel_rfl) (of_decide_eq_true (by kernel_rfl)) h0 sF lt0) trodAll_mk0),rfl,sF.frame _,fun h=>by cases h⟩
theorem over:Rows.fnConsoleRow.holds Tryz.pinned (OpenSpec.ofChange Rows.fnConsoleSpec):=
 OpenClaim.holds_of_wide 5 Tryz.f5 rfl rfl rfl rfl rfl rfl rfl ⟨rfl,rfl,rfl,rfl,rfl⟩ rfl rfl rfl rfl rfl (by kernel_rfl) Tryz.func5 closed
  (of_decide_eq_true (by kernel_rfl)) (by unfold Func.isWrapper;first| (rw[if_pos (by decide+kernel)];kernel_rfl)| (rw[if_neg (by decide+kernel)];exact ⟨rfl,rfl⟩))
  (fun os started H enc _=>lifted os started H enc)
end Go.Proofs.YtbmmhdmljajcfaaGreatDoor.mw
