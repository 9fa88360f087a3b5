import Derived.Test.YtbmmhdmljajcfaaGreatDoorRows
import Derived.Test.YtbmmhdmljajcfaaGreatDoorVLaw
import Derived.Test.YtbmmhdmljajcfaaGreatDoorMFnExactStepRules
import Derived.Test.YtbmmhdmljajcfaaGreatDoorPFnExactStepRules
import Derived.WalkKit
import Derived.ProofKit
import Derived.OpenShut
import Derived.ShutString
import Derived.ChangeOld
import Derived.Below
import Derived.SizedLaws
import Derived.Test.YtbmmhdmljajcfaaGreatDoorCards
import Derived.Test.YtbmmhdmljajcfaaGreatDoorTie
import Derived.LaidMore
import Derived.Stop.Joined
import Derived.Lib.LaidTab
import Derived.SevenTiedAt
set_option linter.unusedVariables false
set_option linter.unusedSimpArgs false
namespace Go.Proofs.YtbmmhdmljajcfaaGreatDoor
open Go Go.Proofs.YtbmmhdmljajcfaaGreatDoor.V
set_option maxRecDepth 100000 in
theorem laws_FnExactStepRules.eq {k:Nat} (hk:BIG<=k) {a0_0:Int} {a0_1:Int} {a0_2:Bool} {a0_3:Bool} {a0_4:List Int} {a0_5:List Int} {a0_6:Int} {a0_7:Int} {a0_8:List Int} {a0_9:Bool} {a0_10:List Int} {a0_11:Int} {a0_12:Int} {a0_13:Bool} {a0_14:Bool} {a0_15:List Int} {a0_16:List Int} {a0_17:Int} {a0_18:Int} {a0_19:List (List Int)} {a0_20:List Int} {a0_21:List Int} {a0_22:Int} {a0_23:Int} {a0_24:Int} {a0_25:List Int} {a0_26:List (List Int)} {a1:ByteArray} (i_a0_0:wfI .i64 a0_0) (i_a0_1:wfI .i64 a0_1) (j_a0_4:a0_4.length<=maxLen) (i_a0_4: ∀n∈a0_4,wfI .i64 n) (j_a0_5:a0_5.length<=maxLen) (i_a0_5: ∀n∈a0_5,wfI .i64 n) (i_a0_6:wfI .i64 a0_6) (i_a0_7:wfI .i64 a0_7) (j_a0_8:a0_8.length<=maxLen) (i_a0_8: ∀n∈a0_8,wfI .i64 n) (j_a0_10:a0_10.length<=maxLen) (i_a0_10: ∀n∈a0_10,wfI .i64 n) (i_a0_11:wfI .i64 a0_11) (i_a0_12:wfI .i64 a0_12) (j_a0_15:a0_15.length<=maxLen) (i_a0_15: ∀n∈a0_15,wfI .i64 n) (j_a0_16:a0_16.length<=maxLen) (i_a0_16: ∀n∈a0_16,wfI .i64 n) (i_a0_17:wfI .i64 a0_17) (i_a0_18:wfI .i64 a0_18) (j_a0_19:a0_19.length<=maxLen) (i_a0_19: ∀y∈a0_19,y.length<=maxLen/\ ∀n∈y,wfI .i64 n) (j_a0_20:a0_20.length<=maxLen) (i_a0_20: ∀n∈a0_20,wfI .i64 n) (j_a0_21:a0_21.length<=maxLen) (i_a0_21: ∀n∈a0_21,wfI .i64 n) (i_a0_22:wfI .i64 a0_22) (i_a0_23:wfI .i64 a0_23) (i_a0_24:wfI .i64 a0_24) (j_a0_25:a0_25.length<=maxLen) (i_a0_25: ∀n∈a0_25,wfI .i64 n) (j_a0_26:a0_26.length<=maxLen) (i_a0_26: ∀y∈a0_26,y.length<=maxLen/\ ∀n∈y,wfI .i64 n) (i_a1:a1.size<=maxLen):laws_FnExactStepRules.f k a0_0 a0_1 a0_2 a0_3 a0_4 a0_5 a0_6 a0_7 a0_8 a0_9 a0_10 a0_11 a0_12 a0_13 a0_14 a0_15 a0_16 a0_17 a0_18 a0_19 a0_20 a0_21 a0_22 a0_23 a0_24 a0_25 a0_26 a1=some true:=by
 by_cases g_a1:(a1.size:Int)>(1048576:Int)
 ·exact (bif_t (dec_t g_a1))
 have s_a1_0:a1.size<1048577:=by omega
 obtain ⟨z0,e0,c0⟩:=laws_szTable.eq hk (left:=1048576) (by omega) (by omega) j_a0_4 j_a0_5 j_a0_8 j_a0_10 j_a0_15 j_a0_16 j_a0_19 (fun y hy=>(i_a0_19 y hy).1) j_a0_20 j_a0_21 j_a0_25 j_a0_26 (fun y hy=>(i_a0_26 y hy).1)
 rcases c0 with c0| ⟨p0,q0,s_a0_4_0,s_a0_5_0,s_a0_8_0,s_a0_10_0,s_a0_15_0,s_a0_16_0,s_a0_19_0,s_a0_19_1,s_a0_20_0,s_a0_21_0,s_a0_25_0,s_a0_26_0,s_a0_26_1⟩
 ·exact (bif_f (dec_f g_a1)).trans<|(bind_s e0).trans (bif_t (dec_t c0))
 obtain ⟨r,hs,hi,f0,f1,f2,f3,f4,f5,f6,f7,f8,f9,f10,f11,f12⟩:=FnExactStepRules.same hk a0_0 a0_1 a0_2 a0_3 a0_4 a0_5 a0_6 a0_7 a0_8 a0_9 a0_10 a0_11 a0_12 a0_13 a0_14 a0_15 a0_16 a0_17 a0_18 a0_19 a0_20 a0_21 a0_22 a0_23 a0_24 a0_25 a0_26 a1 i_a0_0 i_a0_1 s_a0_4_0 i_a0_4 s_a0_5_0 i_a0_5 i_a0_6 i_a0_7 s_a0_8_0 i_a0_8 s_a0_10_0 i_a0_10 i_a0_11 i_a0_12 s_a0_15_0 i_a0_15 s_a0_16_0 i_a0_16 i_a0_17 i_a0_18 s_a0_19_0 s_a0_19_1 (fun y hy=>(i_a0_19 y hy).2) s_a0_20_0 i_a0_20 s_a0_21_0 i_a0_21 i_a0_22 i_a0_23 i_a0_24 s_a0_25_0 i_a0_25 s_a0_26_0 s_a0_26_1 (fun y hy=>(i_a0_26 y hy).2) s_a1_0 i_a1
 obtain ⟨m0_0,m0_1,m0_2,m0_3,m0_4,m0_5,m0_6,m0_7,m0_8,m0_9,m0_10,w0_0,w0_1,w0_2,w0_3,w0_4,w0_5,w0_6,w0_7,w0_8,w0_9,w0_10,u0,k0_0,k0_1,k0_2,k0_3,k0_4,k0_5,k0_6,k0_7,k0_8,k0_9,k0_10⟩:=laws_markTable.eq hk a0_0 a0_1 a0_2 a0_3 a0_4 a0_5 a0_6 a0_7 a0_8 a0_9 a0_10 a0_11 a0_12 a0_13 a0_14 a0_15 a0_16 a0_17 a0_18 a0_19 a0_20 a0_21 a0_22 a0_23 a0_24 a0_25 a0_26 (1:Int) s_a0_4_0 s_a0_5_0 s_a0_8_0 s_a0_10_0 s_a0_15_0 s_a0_16_0 s_a0_19_0 s_a0_19_1 s_a0_20_0 s_a0_21_0 s_a0_25_0 s_a0_26_0 s_a0_26_1 (by omega) (by omega)
 have b0_0:=mkI_le k0_0
 have b0_1:=mkI_le k0_1
 have b0_2:=mkI_le k0_2
 have b0_3:=mkI_le k0_3
 have b0_4:=mkI_le k0_4
 have b0_5:=mkI_le k0_5
 have b0_6:=mkII_le k0_6
 have b0_7:=mkI_le k0_7
 have b0_8:=mkI_le k0_8
 have b0_9:=mkI_le k0_9
 have b0_10:=mkII_le k0_10
 obtain ⟨m1_0,m1_1,m1_2,m1_3,m1_4,m1_5,m1_6,m1_7,m1_8,m1_9,m1_10,w1_0,w1_1,w1_2,w1_3,w1_4,w1_5,w1_6,w1_7,w1_8,w1_9,w1_10,u1,k1_0,k1_1,k1_2,k1_3,k1_4,k1_5,k1_6,k1_7,k1_8,k1_9,k1_10⟩:=laws_markTable.eq hk (r.1) (r.2.1) (r.2.2.1) (r.2.2.2.1) (r.2.2.2.2.1) (r.2.2.2.2.2.1) (r.2.2.2.2.2.2.1) (r.2.2.2.2.2.2.2.1) (r.2.2.2.2.2.2.2.2.1) (r.2.2.2.2.2.2.2.2.2.1) (r.2.2.2.2.2.2.2.2.2.2.1) (r.2.2.2.2.2.2.2.2.2.2.2.1) (r.2.2.2.2.2.2.2.2.2.2.2.2.1) (r.2.2.2.2.2.2.2.2.2.2.2.2.2.1) (r.2.2.2.2.2.2.2.2.2.2.2.2.2.2.1) (r.2.2.2.2.2.2.2.2.2.2.2.2.2.2.2.1) (r.2.2.2.2.2.2.2.2.2.2.2.2.2.2.2.2.1) (r.2.2.2.2.2.2.2.2.2.2.2.2.2.2.2.2.2.1) (r.2.2.2.2.2.2.2.2.2.2.2.2.2.2.2.2.2.2.1) (r.2.2.2.2.2.2.2.2.2.2.2.2.2.2.2.2.2.2.2.1) (r.2.2.2.2.2.2.2.2.2.2.2.2.2.2.2.2.2.2.2.2.1) (r.2.2.2.2.2.2.2.2.2.2.2.2.2.2.2.2.2.2.2.2.2.1) (r.2.2.2.2.2.2.2.2.2.2.2.2.2.2.2.2.2.2.2.2.2.2.1) (r.2.2.2.2.2.2.2.2.2.2.2.2.2.2.2.2.2.2.2.2.2.2.2.1) (r.2.2.2.2.2.2.2.2.2.2.2.2.2.2.2.2.2.2.2.2.2.2.2.2.1) (r.2.2.2.2.2.2.2.2.2.2.2.2.2.2.2.2.2.2.2.2.2.2.2.2.2.1) (r.2.2.2.2.2.2.2.2.2.2.2.2.2.2.2.2.2.2.2.2.2.2.2.2.2.2.1) (1:Int) f0 f1 f2 f3 f4 f5 f6 f7 f8 f9 f10 f11 f12 (by omega) (by omega)
 have b1_0:=mkI_le k1_0
 have b1_1:=mkI_le k1_1
 have b1_2:=mkI_le k1_2
 have b1_3:=mkI_le k1_3
 have b1_4:=mkI_le k1_4
 have b1_5:=mkI_le k1_5
 have b1_6:=mkII_le k1_6
 have b1_7:=mkI_le k1_7
 have b1_8:=mkI_le k1_8
 have b1_9:=mkI_le k1_9
 have b1_10:=mkII_le k1_10
 exact (bif_f (dec_f g_a1)).trans<|(bind_s e0).trans<|(bif_f (dec_f (by omega))).trans<|(bind_s (laws_toTable.eq hk s_a0_4_0 s_a0_5_0 s_a0_8_0 s_a0_10_0 s_a0_15_0 s_a0_16_0 s_a0_19_0 s_a0_19_1 s_a0_20_0 s_a0_21_0 s_a0_25_0 s_a0_26_0 s_a0_26_1)).trans<|(bind_s hs).trans<|(bind_s (laws_toTable.eq hk s_a0_4_0 s_a0_5_0 s_a0_8_0 s_a0_10_0 s_a0_15_0 s_a0_16_0 s_a0_19_0 s_a0_19_1 s_a0_20_0 s_a0_21_0 s_a0_25_0 s_a0_26_0 s_a0_26_1)).trans<|(bind_s hi).trans<|(bind_s (laws_eqTable.eq hk f0 f1 f2 f3 f4 f5 f6 f7 f8 f9 f10 f11 f12)).trans<|(bif_f (by simp)).trans<|(bif_f (by simp)).trans<|(bind_s (laws_toTable.eq hk s_a0_4_0 s_a0_5_0 s_a0_8_0 s_a0_10_0 s_a0_15_0 s_a0_16_0 s_a0_19_0 s_a0_19_1 s_a0_20_0 s_a0_21_0 s_a0_25_0 s_a0_26_0 s_a0_26_1)).trans<|(bind_s (laws_eqTable.eq hk s_a0_4_0 s_a0_5_0 s_a0_8_0 s_a0_10_0 s_a0_15_0 s_a0_16_0 s_a0_19_0 s_a0_19_1 s_a0_20_0 s_a0_21_0 s_a0_25_0 s_a0_26_0 s_a0_26_1)).trans<|(bif_f (by simp)).trans<|(bind_s u0).trans<|(bif_f (dec_f (by omega))).trans<|(bind_s (laws_eqTable.eq hk f0 f1 f2 f3 f4 f5 f6 f7 f8 f9 f10 f11 f12)).trans<|(bif_f (by simp)).trans<|(bif_f (by simp)).trans<|(bind_s u1).trans<|(bind_s (laws_heldTable.eq hk (r.1) (r.2.1) (r.2.2.1) (r.2.2.2.1) w1_0 w1_1 (r.2.2.2.2.2.2.1) (r.2.2.2.2.2.2.2.1) w1_2 (r.2.2.2.2.2.2.2.2.2.1) w1_3 (r.2.2.2.2.2.2.2.2.2.2.2.1) (r.2.2.2.2.2.2.2.2.2.2.2.2.1) (r.2.2.2.2.2.2.2.2.2.2.2.2.2.1) (r.2.2.2.2.2.2.2.2.2.2.2.2.2.2.1) w1_4 w1_5 (r.2.2.2.2.2.2.2.2.2.2.2.2.2.2.2.2.2.1) (r.2.2.2.2.2.2.2.2.2.2.2.2.2.2.2.2.2.2.1) w1_6 w1_7 w1_8 (r.2.2.2.2.2.2.2.2.2.2.2.2.2.2.2.2.2.2.2.2.2.2.1) (r.2.2.2.2.2.2.2.2.2.2.2.2.2.2.2.2.2.2.2.2.2.2.2.1) (r.2.2.2.2.2.2.2.2.2.2.2.2.2.2.2.2.2.2.2.2.2.2.2.2.1) w1_9 w1_10 (1:Int) m1_0 m1_1 m1_2 m1_3 m1_4 m1_5 m1_6 m1_7 m1_8 m1_9 m1_10 k1_0 k1_1 k1_2 k1_3 k1_4 k1_5 k1_6 k1_7 k1_8 k1_9 k1_10 (by omega) (by omega))).trans<|(bif_f (dec_f (by omega))).trans<|(bif_f (by simp)).trans<|(bind_s (laws_toTable.eq hk s_a0_4_0 s_a0_5_0 s_a0_8_0 s_a0_10_0 s_a0_15_0 s_a0_16_0 s_a0_19_0 s_a0_19_1 s_a0_20_0 s_a0_21_0 s_a0_25_0 s_a0_26_0 s_a0_26_1)).trans<|(bind_s hi).trans<|(bind_s (laws_eqTable.eq hk f0 f1 f2 f3 f4 f5 f6 f7 f8 f9 f10 f11 f12)).trans<|(bif_f (by simp)).trans<|(bif_f (by simp)).trans<|(bind_s (laws_heldTable.eq hk (r.1) (r.2.1) (r.2.2.1) (r.2.2.2.1) w1_0 w1_1 (r.2.2.2.2.2.2.1) (r.2.2.2.2.2.2.2.1) w1_2 (r.2.2.2.2.2.2.2.2.2.1) w1_3 (r.2.2.2.2.2.2.2.2.2.2.2.1) (r.2.2.2.2.2.2.2.2.2.2.2.2.1) (r.2.2.2.2.2.2.2.2.2.2.2.2.2.1) (r.2.2.2.2.2.2.2.2.2.2.2.2.2.2.1) w1_4 w1_5 (r.2.2.2.2.2.2.2.2.2.2.2.2.2.2.2.2.2.1) (r.2.2.2.2.2.2.2.2.2.2.2.2.2.2.2.2.2.2.1) w1_6 w1_7 w1_8 (r.2.2.2.2.2.2.2.2.2.2.2.2.2.2.2.2.2.2.2.2.2.2.1) (r.2.2.2.2.2.2.2.2.2.2.2.2.2.2.2.2.2.2.2.2.2.2.2.1) (r.2.2.2.2.2.2.2.2.2.2.2.2.2.2.2.2.2.2.2.2.2.2.2.2.1) w1_9 w1_10 (1:Int) m1_0 m1_1 m1_2 m1_3 m1_4 m1_5 m1_6 m1_7 m1_8 m1_9 m1_10 k1_0 k1_1 k1_2 k1_3 k1_4 k1_5 k1_6 k1_7 k1_8 k1_9 k1_10 (by omega) (by omega))).trans<|(bif_f (dec_f (by omega))).trans<|(bif_f (by simp)).trans<|rfl
end Go.Proofs.YtbmmhdmljajcfaaGreatDoor
namespace Go.Proofs.YtbmmhdmljajcfaaGreatDoor.fnExactStepRules
open Go.ChangeShapes Go.WideShapes Go.ChangeAt Go.RowKit
open Go.ChangeMaps (open_string shut_string)
set_option linter.unusedVariables false
theorem own:ownKnob Tryz.prog.godebug=none:=by kernel_rfl
theorem laidOut:laidOutB Tryz.prog=true:=by kernel_rfl
abbrev laidL:List (String×DataW Unit):=[("math/bits.deBruijn32tab",Rows.laid_math_bits_deBruijn32tab),("math/bits.deBruijn64tab",Rows.laid_math_bits_deBruijn64tab),("internal/strconv.uint64pow10",Rows.laid_internal_strconv_uint64pow10),("strconv.ErrRange",Rows.laid_strconv_ErrRange),("strconv.ErrSyntax",Rows.laid_strconv_ErrSyntax)]
theorem door_met (os:Os) (args:Array Value):laidMetH Tryz.prog laidL ((World.doorLaid Tryz.prog 62 os).forCall (fun _ _=>0) ⟨#[],args,[]⟩).memory:=
 laidMetH_of_parts3 (fuel:=8) (laidMet_of_run' 8 (by kernel_rfl) (by kernel_rfl)) (by kernel_rfl) (by kernel_rfl)
theorem gT:Tryz.prog.globalNamed "internal/strconv.uint64pow10" =some 3:=by kernel_rfl
theorem gTy:(Tryz.prog.globals[3]?).map (·.type)=some 232:=by kernel_rfl
theorem uT:Tryz.prog.underlying 232=some (.array 20 220):=by kernel_rfl
theorem uE:Tryz.prog.underlying 220=some (.int .u64):=by kernel_rfl
theorem grounded {W:World} (h:laidMetH Tryz.prog laidL W):V.Ground Tryz.prog W (V.Zall W):=by
 rw[MakeChecks.laidMetH_plain _ _ _ (by kernel_rfl)] at h
 obtain ⟨ps,⟨g0,t0,cs0,f0,p0,q0,hg0,ht0,hv0,hd0,⟨g1,t1,cs1,f1,p1,q1,hg1,ht1,hv1,hd1,⟨g2,t2,cs2,f2,p2,q2,hg2,ht2,hv2,hd2,⟨g3,t3,cs3,f3,p3,q3,hg3,ht3,hv3,hd3,⟨g4,t4,cs4,f4,p4,q4,hg4,ht4,hv4,hd4,_,_⟩,_⟩,_⟩,_⟩,_⟩,_,_⟩:=h
 obtain rfl:=Option.some.inj (gT.symm.trans hg2)
 obtain rfl:=Option.some.inj (gTy.symm.trans ht2)
 refine ⟨?_,?_⟩
 ·have hc:=Lib.cells_of_tab (k:= .u64) (zs:=Lib.pow10Tab) uT uE (by kernel_rfl) (by kernel_rfl) hd2
  intro b hb
  obtain rfl:=Option.some.inj (gT.symm.trans hb)
  refine ⟨V.var_lt gT hv2,?_⟩
  rw[show V.tabName= "internal/strconv.uint64pow10" from rfl,hv2]
  exact congrArg some (Array.toArray_toList.symm.trans (congrArg List.toArray hc))
 ·intro b hb
  have gE:Tryz.prog.globalNamed "strconv.ErrSyntax" =some 1:=by kernel_rfl
  obtain rfl:=Option.some.inj (gE.symm.trans hg4)
  obtain rfl:=Option.some.inj ((show (Tryz.prog.globals[1]?).map (·.type)=some 155 by kernel_rfl).symm.trans ht4)
  obtain rfl:=Option.some.inj (gE.symm.trans hb)
  obtain ⟨u,x,hcs⟩:=V.iface_trod Tryz.underlying155 hd4
  refine ⟨V.var_lt gE hv4,u,x,?_⟩
  rw[show V.errName= "strconv.ErrSyntax" from rfl,hv4]
  exact congrArg some (Array.toArray_toList.symm.trans (congrArg List.toArray hcs))
set_option maxRecDepth 100000 in
theorem lifted (os:Os) (started:os.Started) (H:Type) (enc:TypeId×Value->H):
 ReturnsInHanded {} Tryz.checked os 3 .any (fun w args=>(Rows.fnExactStepRulesSpec.pre enc Tryz.prog Tryz.f3 [] false w args/\laidMetH Tryz.prog laidL w)/\sizedMet enc Tryz.prog Tryz.f3 (OpenSpec.ofChange Rows.fnExactStepRulesSpec) false w args) (Rows.fnExactStepRulesSpec.post enc Tryz.prog Tryz.f3 false true false false):=by
 refine returnsInHanded_of_change_and (C:=Tryz.checked) (X:=fun w _=>laidMetH Tryz.prog laidL w) (fun _ _ _ hh h=>h.of_heap hh) own started (by kernel_rfl) Tryz.func3
  (ChangeSpec.witness_shaped (enc:=enc) (C:=Tryz.checked) (os:=os) (X:=fun w _=>laidMetH Tryz.prog laidL w) false (World.doorLaid Tryz.prog 62 os) #[.agg #[.int .i64 0,.int .i64 0,.bool false,.bool false,.slice none 0 0,.slice none 0 0,.int .i64 0,.int .i64 0,.slice none 0 0,.bool false,.slice none 0 0,.int .i64 0,.int .i64 0,.bool false,.bool false,.slice none 0 0,.slice none 0 0,.int .i64 0,.int .i64 0,.slice none 0 0,.slice none 0 0,.slice none 0 0,.int .i64 0,.int .i64 0,.int .i64 0,.slice none 0 0,.slice none 0 0],.string ByteArray.empty] 8 rfl (World.shaped_of_RefB (by kernel_rfl) (by kernel_rfl)) (by kernel_rfl) (by kernel_rfl) (by kernel_rfl) (door_met os _)) ?_
 intro W base args ds gs before hval0 hW _ _ hL _
 have hval: ∀(j:Nat) t v,Tryz.f3.params[j]? =some t->args[j]? =some v->Value.okWide Tryz.prog W .any base t v:=hval0
 have hW':=hW
 obtain ⟨p,q,hA0,hV,rfl,hfz,hnd⟩:=hW
 have hA:DataW.TrodAll enc Tryz.prog W 0 (fun _=>true) true Tryz.f3.params.toList args.toList ds p:=hA0
 obtain ⟨rfl,rfl⟩:=trodVars_none hV
 rw[Tryz.params3] at hA hval
 obtain ⟨dvs,hrel,hok0⟩:=V.args_open M.tok (Zf:=V.Zall W) (ts:=[29,9]) (by kernel_rfl) (fun j t v e1 e2=>hval j t v (by simpa using e1) (by simpa using e2)) (show DataW.TrodAll enc Tryz.prog W 0 (fun _=>true) true [29,9] args.toList ds p from hA)
 obtain ⟨v0,vs0,t0,ts0,p0,q0,hargs,rfl,rfl,h0,r0⟩:=trodAll_cons hA
 obtain ⟨v1,vs1,t1,ts1,p1,q1,rfl,rfl,rfl,h1,r1⟩:=trodAll_cons r0
 obtain ⟨rfl,rfl,rfl⟩:=trodAll_nil r1
 obtain rfl:args= #[v0,v1]:=by cases args;simp_all
 have lt0: ∀x∈p0,x.block<W.heap.size:=by obtain ⟨m,hm⟩:=h0;exact DataW.trod_lt m _ _ _ hm
 have lt1: ∀x∈p1,x.block<W.heap.size:=by obtain ⟨m,hm⟩:=h1;exact DataW.trod_lt m _ _ _ hm
 obtain ⟨d0,ds0,rfl,oa0,hok1⟩:=V.okVs_cons hok0
 obtain ⟨e0,rfl,o0_0⟩:=V.okV_agg (show M.tt 29=some ⟨.struct [(0,24),(8,22),(9,4),(10,22),(11,27),(25,22),(26,25)],27,376⟩ by kernel_rfl) oa0
 rw[show V.leafTypes M.tt V.depth 29=[3,3,4,4,22,22,3,3,22,4,22,3,3,4,4,22,22,3,3,25,22,22,3,3,3,22,25] by kernel_rfl] at o0_0
 obtain ⟨e0_0,es0_0,rfl,p0_0,o0_1⟩:=V.okLs_cons o0_0
 obtain ⟨x0_0,rfl,i0_0⟩:=V.okL_int (show M.tt 3=some ⟨.int .i64,1,8⟩ by kernel_rfl) p0_0
 obtain ⟨e0_1,es0_1,rfl,p0_1,o0_2⟩:=V.okLs_cons o0_1
 obtain ⟨x0_1,rfl,i0_1⟩:=V.okL_int (show M.tt 3=some ⟨.int .i64,1,8⟩ by kernel_rfl) p0_1
 obtain ⟨e0_2,es0_2,rfl,p0_2,o0_3⟩:=V.okLs_cons o0_2
 obtain ⟨x0_2,rfl⟩:=V.okL_bool (show M.tt 4=some ⟨.bool,1,1⟩ by kernel_rfl) p0_2
 obtain ⟨e0_3,es0_3,rfl,p0_3,o0_4⟩:=V.okLs_cons o0_3
 obtain ⟨x0_3,rfl⟩:=V.okL_bool (show M.tt 4=some ⟨.bool,1,1⟩ by kernel_rfl) p0_3
 obtain ⟨e0_4,es0_4,rfl,p0_4,o0_5⟩:=V.okLs_cons o0_4
 obtain ⟨x0_4,rfl,i0_4,j0_4⟩:=V.okL_ints (k:= .i64) (show M.tt 22=some ⟨.slice 3,1,24⟩ by kernel_rfl) (by kernel_rfl) p0_4
 obtain ⟨e0_5,es0_5,rfl,p0_5,o0_6⟩:=V.okLs_cons o0_5
 obtain ⟨x0_5,rfl,i0_5,j0_5⟩:=V.okL_ints (k:= .i64) (show M.tt 22=some ⟨.slice 3,1,24⟩ by kernel_rfl) (by kernel_rfl) p0_5
 obtain ⟨e0_6,es0_6,rfl,p0_6,o0_7⟩:=V.okLs_cons o0_6
 obtain ⟨x0_6,rfl,i0_6⟩:=V.okL_int (show M.tt 3=some ⟨.int .i64,1,8⟩ by kernel_rfl) p0_6
 obtain ⟨e0_7,es0_7,rfl,p0_7,o0_8⟩:=V.okLs_cons o0_7
 obtain ⟨x0_7,rfl,i0_7⟩:=V.okL_int (show M.tt 3=some ⟨.int .i64,1,8⟩ by kernel_rfl) p0_7
 obtain ⟨e0_8,es0_8,rfl,p0_8,o0_9⟩:=V.okLs_cons o0_8
 obtain ⟨x0_8,rfl,i0_8,j0_8⟩:=V.okL_ints (k:= .i64) (show M.tt 22=some ⟨.slice 3,1,24⟩ by kernel_rfl) (by kernel_rfl) p0_8
 obtain ⟨e0_9,es0_9,rfl,p0_9,o0_10⟩:=V.okLs_cons o0_9
 obtain ⟨x0_9,rfl⟩:=V.okL_bool (show M.tt 4=some ⟨.bool,1,1⟩ by kernel_rfl) p0_9
 obtain ⟨e0_10,es0_10,rfl,p0_10,o0_11⟩:=V.okLs_cons o0_10
 obtain ⟨x0_10,rfl,i0_10,j0_10⟩:=V.okL_ints (k:= .i64) (show M.tt 22=some ⟨.slice 3,1,24⟩ by kernel_rfl) (by kernel_rfl) p0_10
 obtain ⟨e0_11,es0_11,rfl,p0_11,o0_12⟩:=V.okLs_cons o0_11
 obtain ⟨x0_11,rfl,i0_11⟩:=V.okL_int (show M.tt 3=some ⟨.int .i64,1,8⟩ by kernel_rfl) p0_11
 obtain ⟨e0_12,es0_12,rfl,p0_12,o0_13⟩:=V.okLs_cons o0_12
 obtain ⟨x0_12,rfl,i0_12⟩:=V.okL_int (show M.tt 3=some ⟨.int .i64,1,8⟩ by kernel_rfl) p0_12
 obtain ⟨e0_13,es0_13,rfl,p0_13,o0_14⟩:=V.okLs_cons o0_13
 obtain ⟨x0_13,rfl⟩:=V.okL_bool (show M.tt 4=some ⟨.bool,1,1⟩ by kernel_rfl) p0_13
 obtain ⟨e0_14,es0_14,rfl,p0_14,o0_15⟩:=V.okLs_cons o0_14
 obtain ⟨x0_14,rfl⟩:=V.okL_bool (show M.tt 4=some ⟨.bool,1,1⟩ by kernel_rfl) p0_14
 obtain ⟨e0_15,es0_15,rfl,p0_15,o0_16⟩:=V.okLs_cons o0_15
 obtain ⟨x0_15,rfl,i0_15,j0_15⟩:=V.okL_ints (k:= .i64) (show M.tt 22=some ⟨.slice 3,1,24⟩ by kernel_rfl) (by kernel_rfl) p0_15
 obtain ⟨e0_16,es0_16,rfl,p0_16,o0_17⟩:=V.okLs_cons o0_16
 obtain ⟨x0_16,rfl,i0_16,j0_16⟩:=V.okL_ints (k:= .i64) (show M.tt 22=some ⟨.slice 3,1,24⟩ by kernel_rfl) (by kernel_rfl) p0_16
 obtain ⟨e0_17,es0_17,rfl,p0_17,o0_18⟩:=V.okLs_cons o0_17
 obtain ⟨x0_17,rfl,i0_17⟩:=V.okL_int (show M.tt 3=some ⟨.int .i64,1,8⟩ by kernel_rfl) p0_17
 obtain ⟨e0_18,es0_18,rfl,p0_18,o0_19⟩:=V.okLs_cons o0_18
 obtain ⟨x0_18,rfl,i0_18⟩:=V.okL_int (show M.tt 3=some ⟨.int .i64,1,8⟩ by kernel_rfl) p0_18
 obtain ⟨e0_19,es0_19,rfl,p0_19,o0_20⟩:=V.okLs_cons o0_19
 obtain ⟨x0_19,rfl,i0_19,j0_19⟩:=V.okL_rows (show M.tt 25=some ⟨.slice 22,1,24⟩ by kernel_rfl) (by kernel_rfl) p0_19
 obtain ⟨e0_20,es0_20,rfl,p0_20,o0_21⟩:=V.okLs_cons o0_20
 obtain ⟨x0_20,rfl,i0_20,j0_20⟩:=V.okL_ints (k:= .i64) (show M.tt 22=some ⟨.slice 3,1,24⟩ by kernel_rfl) (by kernel_rfl) p0_20
 obtain ⟨e0_21,es0_21,rfl,p0_21,o0_22⟩:=V.okLs_cons o0_21
 obtain ⟨x0_21,rfl,i0_21,j0_21⟩:=V.okL_ints (k:= .i64) (show M.tt 22=some ⟨.slice 3,1,24⟩ by kernel_rfl) (by kernel_rfl) p0_21
 obtain ⟨e0_22,es0_22,rfl,p0_22,o0_23⟩:=V.okLs_cons o0_22
 obtain ⟨x0_22,rfl,i0_22⟩:=V.okL_int (show M.tt 3=some ⟨.int .i64,1,8⟩ by kernel_rfl) p0_22
 obtain ⟨e0_23,es0_23,rfl,p0_23,o0_24⟩:=V.okLs_cons o0_23
 obtain ⟨x0_23,rfl,i0_23⟩:=V.okL_int (show M.tt 3=some ⟨.int .i64,1,8⟩ by kernel_rfl) p0_23
 obtain ⟨e0_24,es0_24,rfl,p0_24,o0_25⟩:=V.okLs_cons o0_24
 obtain ⟨x0_24,rfl,i0_24⟩:=V.okL_int (show M.tt 3=some ⟨.int .i64,1,8⟩ by kernel_rfl) p0_24
 obtain ⟨e0_25,es0_25,rfl,p0_25,o0_26⟩:=V.okLs_cons o0_25
 obtain ⟨x0_25,rfl,i0_25,j0_25⟩:=V.okL_ints (k:= .i64) (show M.tt 22=some ⟨.slice 3,1,24⟩ by kernel_rfl) (by kernel_rfl) p0_25
 obtain ⟨e0_26,es0_26,rfl,p0_26,o0_27⟩:=V.okLs_cons o0_26
 obtain ⟨x0_26,rfl,i0_26,j0_26⟩:=V.okL_rows (show M.tt 25=some ⟨.slice 22,1,24⟩ by kernel_rfl) (by kernel_rfl) p0_26
 obtain rfl:=V.okLs_nil o0_27
 obtain ⟨d1,ds1,rfl,oa1,hok2⟩:=V.okVs_cons hok1
 obtain ⟨e1,rfl,ob1⟩:=V.okV_l (by kernel_rfl) oa1
 obtain ⟨x1,rfl,i1⟩:=V.okL_str (show M.tt 9=some ⟨.str,1,16⟩ by kernel_rfl) ob1
 obtain rfl:=V.okVs_nil hok2
 have hc:=(laws_FnExactStepRules.con V.BIG).2 ((x0_0,x0_1,x0_2,x0_3,x0_4,x0_5,x0_6,x0_7,x0_8,x0_9,x0_10,x0_11,x0_12,x0_13,x0_14,x0_15,x0_16,x0_17,x0_18,x0_19,x0_20,x0_21,x0_22,x0_23,x0_24,x0_25,x0_26,()),x1,()) true (laws_FnExactStepRules.eq (Nat.le_refl _) i0_0 i0_1 j0_4 i0_4 j0_5 i0_5 i0_6 i0_7 j0_8 i0_8 j0_10 i0_10 i0_11 i0_12 j0_15 i0_15 j0_16 i0_16 i0_17 i0_18 j0_19 i0_19 j0_20 i0_20 j0_21 i0_21 i0_22 i0_23 i0_24 j0_25 i0_25 j0_26 i0_26 i1)
 refine (V.law_calls_frz (grounded hL) rfl hc hrel).mono fun e W' ⟨he,bel⟩=> ?_
 subst he
 exact ⟨_,rfl,_,_,_,[],_,[],hW',trodAll_mk1 (shut_bool Tryz.underlying4 _),(trodAll_cons_mk (Below.trod laidOut (by kernel_rfl) (of_decide_eq_true (by kernel_rfl)) h0 bel lt0) (trodAll_cons_mk (Below.trod laidOut (by kernel_rfl) (of_decide_eq_true (by kernel_rfl)) h1 bel lt1) trodAll_mk0)),rfl,bel.frame _,fun h=>by cases h⟩
set_option maxHeartbeats 100000000 in
theorem closed:joinedFacts Tryz.prog 3 Tryz.f3 Rows.fnExactStepRulesSpec Rows.fnExactStepRulesRow=true:=by
 unfold joinedFacts
 repeat' (with_reducible refine V.and_t ?_ ?_)
 all_goals (as_aux_lemma=>kernel_rfl)
theorem over:Rows.fnExactStepRulesRow.holds Tryz.pinned (OpenSpec.ofChange Rows.fnExactStepRulesSpec):=
 OpenClaim.holds_of_wide 3 Tryz.f3 rfl rfl rfl rfl rfl rfl rfl ⟨rfl,rfl,rfl,rfl,rfl⟩ rfl rfl rfl rfl rfl (by kernel_rfl) Tryz.func3 closed
  (of_decide_eq_true (by kernel_rfl)) (by unfold Func.isWrapper;first| (rw[if_pos (by decide+kernel)];kernel_rfl)| (rw[if_neg (by decide+kernel)];exact ⟨rfl,rfl⟩))
  (fun os started H enc _=>lifted os started H enc)
theorem card:Rows.FnExactStepRulesCardSaid:=
 Claim7.holds_tied_plain_at .later [] [.data,.data,.data,.sentinel,.sentinel] true (true,"66d660e697c8618cd58fc91012fcf406d149a0e5f3e5171234bfd437ef351852") true
  over (fun _ h=>by cases h) (by kernel_rfl) (fun _ h=>by cases h) fnExactStepRules_row_tie rfl ⟨rfl,rfl⟩ (by kernel_rfl) rfl
  (fun f fn hf hfn=>by
    obtain rfl:f=3:=Option.some.inj ((show Tryz.prog.funcNamed "loop.example/g03010/laws.FnExactStepRules" =some 3 by kernel_rfl).symm.trans hf) |>.symm
    obtain rfl:fn=Tryz.f3:=(Option.some.inj (Tryz.func3.symm.trans hfn)).symm
    exact ⟨by kernel_rfl,fun j t ht=>by
     rw[Tryz.params3] at ht
     have hm:t∈[29,9]:=by simpa using Array.mem_of_getElem? ht
     have hall:([29,9].all fun u=> !Tryz.prog.wantsStandIn u)=true:=by kernel_rfl
     exact (show Tryz.prog.wantsStandIn t=false by simpa using List.all_eq_true.1 hall t hm)⟩)
  (by kernel_rfl)
#print axioms card
end Go.Proofs.YtbmmhdmljajcfaaGreatDoor.fnExactStepRules
namespace Go.Proofs.YtbmmhdmljajcfaaGreatDoor
theorem fnExactStepRules_holds:Rows.FnExactStepRulesCardSaid:=fnExactStepRules.card
end Go.Proofs.YtbmmhdmljajcfaaGreatDoor
