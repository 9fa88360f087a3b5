/- The law FnExactConsoleLine answers true for every input and leaves it as it was: the walk of the row. Conditions: as the given row states. -/
import Derived.Test.YtbmmhdmljajcfaaGreatDoorCloFnExactConsoleLine
import Derived.Test.YtbmmhdmljajcfaaGreatDoorMFnExactConsoleLine
import Derived.Test.YtbmmhdmljajcfaaGreatDoorPP2
set_option linter.unusedVariables false
set_option linter.unusedSimpArgs false
namespace Go.Proofs.YtbmmhdmljajcfaaGreatDoor
open Go V
set_option maxRecDepth 100000 in
theorem rr.eq {k:Nat} (hk:cy<=k) {abB:Int} {abC:Int} {abL:Bool} {abM:Bool} {abp:List Int} {abq:List Int} {abD:Int} {abF:Int} {abr:List Int} {abN:Bool} {aa9:List Int} {abh:Int} {abi:Int} {abt:Bool} {abu:Bool} {aa_:List Int} {aba:List Int} {abj:Int} {abk:Int} {aaM:List (List Int)} {abb:List Int} {abc:List Int} {abl:Int} {abm:Int} {abn:Int} {abd:List Int} {aaO:List (List Int)} {a1:ByteArray} (adp:tf .i64 abB) (adq:tf .i64 abC) (adr:abp.length<=maxLen) (ads: ∀n∈abp,tf .i64 n) (adt:abq.length<=maxLen) (adu: ∀n∈abq,tf .i64 n) (adv:tf .i64 abD) (adw:tf .i64 abF) (adx:abr.length<=maxLen) (ady: ∀n∈abr,tf .i64 n) (acf:aa9.length<=maxLen) (acg: ∀n∈aa9,tf .i64 n) (acj:tf .i64 abh) (ack:tf .i64 abi) (acm:aa_.length<=maxLen) (acn: ∀n∈aa_,tf .i64 n) (aco:aba.length<=maxLen) (acq: ∀n∈aba,tf .i64 n) (acr:tf .i64 abj) (acs:tf .i64 abk) (acu:aaM.length<=maxLen) (abP: ∀y∈aaM,y.length<=maxLen/\ ∀n∈y,tf .i64 n) (acw:abb.length<=maxLen) (acx: ∀n∈abb,tf .i64 n) (acz:abc.length<=maxLen) (acE: ∀n∈abc,tf .i64 n) (acF:tf .i64 abl) (acG:tf .i64 abm) (acP:tf .i64 abn) (acQ:abd.length<=maxLen) (acT: ∀n∈abd,tf .i64 n) (acV:aaO.length<=maxLen) (abQ: ∀y∈aaO,y.length<=maxLen/\ ∀n∈y,tf .i64 n) (agD:a1.size<=maxLen):rr.f k abB abC abL abM abp abq abD abF abr abN aa9 abh abi abt abu aa_ aba abj abk aaM abb abc abl abm abn abd aaO a1=some true:=by
 by_cases adz:(a1.size:Int)>(1048576:Int)
 ·exact (jV (ae adz))
 have adA:a1.size<1048577:=by omega
 obtain ⟨z0,e0,c0⟩:=L4.eq hk (left:=1048576) (by omega) (by omega) adr adt adx acf acm aco acu (fun y hy=>(abP y hy).1) acw acz acQ acV (fun y hy=>(abQ y hy).1)
 rcases c0 with c0| ⟨p0,q0,aaG,aaI,aaJ,RS,Sw,UJ,W5,W6,W9,aac,aad,aai,aak⟩
 ·exact (br (aC adz)).trans<|(bN e0).trans (jV (ae c0))
 obtain ⟨r,hs,hi,f0,f1,f2,f3,f4,f5,f6,f7,f8,f9,f10,f11,f12⟩:=abg.same hk abB abC abL abM abp abq abD abF abr abN aa9 abh abi abt abu aa_ aba abj abk aaM abb abc abl abm abn abd aaO a1 adp adq aaG ads aaI adu adv adw aaJ ady RS acg acj ack Sw acn UJ acq acr acs W5 W6 (fun y hy=>(abP y hy).2) W9 acx aac acE acF acG acP aad acT aai aak (fun y hy=>(abQ y hy).2) adA agD
 obtain ⟨alD,alE,alF,alG,alH,alI,alJ,alK,alL,alM,ai_,alN,alO,alP,alQ,alR,alS,alT,alU,alV,alW,aja,u0,agE,agF,agG,agH,agI,agJ,agK,agL,agM,agN,adX⟩:=Bl.eq hk abB abC abL abM abp abq abD abF abr abN aa9 abh abi abt abu aa_ aba abj abk aaM abb abc abl abm abn abd aaO (1:Int) aaG aaI aaJ RS Sw UJ W5 W6 W9 aac aad aai aak (by omega) (by omega)
 have alX:=iL agE
 have alY:=iL agF
 have alZ:=iL agG
 have al0:=iL agH
 have al1:=iL agI
 have al2:=iL agJ
 have al3:=aam agK
 have al4:=iL agL
 have al5:=iL agM
 have al6:=iL agN
 have ajb:=aam adX
 obtain ⟨adY,adZ,ad0,ad2,ad3,ad4,ad5,ad6,ad7,ad8,adm,ad9,ad_,aea,aeb,aec,aed,aee,aef,aeh,aei,adn,u1,adB,adC,adD,adE,adF,adG,adH,adI,adJ,adK,ab2⟩:=Bl.eq hk (r.1) (r.2.1) (r.2.2.1) (r.2.2.2.1) (r.2.2.2.2.1) (r.2.2.2.2.2.1) (r.2.2.2.2.2.2.1) (r.2.2.2.2.2.2.2.1) (r.2.2.2.2.2.2.2.2.1) (r.2.2.2.2.2.2.2.2.2.1) (r.2.2.2.2.2.2.2.2.2.2.1) (r.2.2.2.2.2.2.2.2.2.2.2.1) (r.2.2.2.2.2.2.2.2.2.2.2.2.1) (r.2.2.2.2.2.2.2.2.2.2.2.2.2.1) (r.2.2.2.2.2.2.2.2.2.2.2.2.2.2.1) (r.2.2.2.2.2.2.2.2.2.2.2.2.2.2.2.1) (r.2.2.2.2.2.2.2.2.2.2.2.2.2.2.2.2.1) (r.2.2.2.2.2.2.2.2.2.2.2.2.2.2.2.2.2.1) (r.2.2.2.2.2.2.2.2.2.2.2.2.2.2.2.2.2.2.1) (r.2.2.2.2.2.2.2.2.2.2.2.2.2.2.2.2.2.2.2.1) (r.2.2.2.2.2.2.2.2.2.2.2.2.2.2.2.2.2.2.2.2.1) (r.2.2.2.2.2.2.2.2.2.2.2.2.2.2.2.2.2.2.2.2.2.1) (r.2.2.2.2.2.2.2.2.2.2.2.2.2.2.2.2.2.2.2.2.2.2.1) (r.2.2.2.2.2.2.2.2.2.2.2.2.2.2.2.2.2.2.2.2.2.2.2.1) (r.2.2.2.2.2.2.2.2.2.2.2.2.2.2.2.2.2.2.2.2.2.2.2.2.1) (r.2.2.2.2.2.2.2.2.2.2.2.2.2.2.2.2.2.2.2.2.2.2.2.2.2.1) (r.2.2.2.2.2.2.2.2.2.2.2.2.2.2.2.2.2.2.2.2.2.2.2.2.2.2.1) (1:Int) f0 f1 f2 f3 f4 f5 f6 f7 f8 f9 f10 f11 f12 (by omega) (by omega)
 have al7:=iL adB
 have al8:=iL adC
 have al9:=iL adD
 have al_:=iL adE
 have ama:=iL adF
 have amb:=iL adG
 have amc:=aam adH
 have amd:=iL adI
 have ame:=iL adJ
 have amf:=iL adK
 have ajc:=aam ab2
 exact (br (aC adz)).trans<|(bN e0).trans<|(br (aC (by omega))).trans<|(bN (tH.eq hk aaG aaI aaJ RS Sw UJ W5 W6 W9 aac aad aai aak)).trans<|(bN hs).trans<|(bN (tH.eq hk aaG aaI aaJ RS Sw UJ W5 W6 W9 aac aad aai aak)).trans<|(bN hi).trans<|(bN (xA.eq hk f0 f1 f2 f3 f4 f5 f6 f7 f8 f9 f10 f11 f12)).trans<|(br (by simp)).trans<|(br (by simp)).trans<|(bN (tH.eq hk aaG aaI aaJ RS Sw UJ W5 W6 W9 aac aad aai aak)).trans<|(bN (xA.eq hk aaG aaI aaJ RS Sw UJ W5 W6 W9 aac aad aai aak)).trans<|(br (by simp)).trans<|(bN u0).trans<|(br (aC (by omega))).trans<|(bN (xA.eq hk f0 f1 f2 f3 f4 f5 f6 f7 f8 f9 f10 f11 f12)).trans<|(br (by simp)).trans<|(br (by simp)).trans<|(bN u1).trans<|(bN (Ds.eq hk (r.1) (r.2.1) (r.2.2.1) (r.2.2.2.1) ad9 ad_ (r.2.2.2.2.2.2.1) (r.2.2.2.2.2.2.2.1) aea (r.2.2.2.2.2.2.2.2.2.1) aeb (r.2.2.2.2.2.2.2.2.2.2.2.1) (r.2.2.2.2.2.2.2.2.2.2.2.2.1) (r.2.2.2.2.2.2.2.2.2.2.2.2.2.1) (r.2.2.2.2.2.2.2.2.2.2.2.2.2.2.1) aec aed (r.2.2.2.2.2.2.2.2.2.2.2.2.2.2.2.2.2.1) (r.2.2.2.2.2.2.2.2.2.2.2.2.2.2.2.2.2.2.1) aee aef aeh (r.2.2.2.2.2.2.2.2.2.2.2.2.2.2.2.2.2.2.2.2.2.2.1) (r.2.2.2.2.2.2.2.2.2.2.2.2.2.2.2.2.2.2.2.2.2.2.2.1) (r.2.2.2.2.2.2.2.2.2.2.2.2.2.2.2.2.2.2.2.2.2.2.2.2.1) aei adn (1:Int) adY adZ ad0 ad2 ad3 ad4 ad5 ad6 ad7 ad8 adm adB adC adD adE adF adG adH adI adJ adK ab2 (by omega) (by omega))).trans<|(br (aC (by omega))).trans<|(br (by simp)).trans<|(bN (tH.eq hk aaG aaI aaJ RS Sw UJ W5 W6 W9 aac aad aai aak)).trans<|(bN hi).trans<|(bN (xA.eq hk f0 f1 f2 f3 f4 f5 f6 f7 f8 f9 f10 f11 f12)).trans<|(br (by simp)).trans<|(br (by simp)).trans<|(bN (Ds.eq hk (r.1) (r.2.1) (r.2.2.1) (r.2.2.2.1) ad9 ad_ (r.2.2.2.2.2.2.1) (r.2.2.2.2.2.2.2.1) aea (r.2.2.2.2.2.2.2.2.2.1) aeb (r.2.2.2.2.2.2.2.2.2.2.2.1) (r.2.2.2.2.2.2.2.2.2.2.2.2.1) (r.2.2.2.2.2.2.2.2.2.2.2.2.2.1) (r.2.2.2.2.2.2.2.2.2.2.2.2.2.2.1) aec aed (r.2.2.2.2.2.2.2.2.2.2.2.2.2.2.2.2.2.1) (r.2.2.2.2.2.2.2.2.2.2.2.2.2.2.2.2.2.2.1) aee aef aeh (r.2.2.2.2.2.2.2.2.2.2.2.2.2.2.2.2.2.2.2.2.2.2.1) (r.2.2.2.2.2.2.2.2.2.2.2.2.2.2.2.2.2.2.2.2.2.2.2.1) (r.2.2.2.2.2.2.2.2.2.2.2.2.2.2.2.2.2.2.2.2.2.2.2.2.1) aei adn (1:Int) adY adZ ad0 ad2 ad3 ad4 ad5 ad6 ad7 ad8 adm adB adC adD adE adF adG adH adI adJ adK ab2 (by omega) (by omega))).trans<|(br (aC (by omega))).trans<|(br (by simp)).trans<|rfl
end Go.Proofs.YtbmmhdmljajcfaaGreatDoor
namespace Go.Proofs.YtbmmhdmljajcfaaGreatDoor.FF
open Go.ChangeShapes Go.WideShapes Go.ChangeAt Go.RowKit
open Go.ChangeMaps (open_string shut_string)
set_option linter.unusedVariables false
abbrev K6:List (String×DataW Unit):=[("math/bits.deBruijn32tab",Rows.laid_math_bits_deBruijn32tab),("math/bits.deBruijn64tab",Rows.laid_math_bits_deBruijn64tab),("internal/strconv.uint64pow10",Rows.laid_internal_strconv_uint64pow10),("strconv.ErrRange",Rows.laid_strconv_ErrRange),("strconv.ErrSyntax",Rows.laid_strconv_ErrSyntax)]
theorem Sh (os:Os) (args:Array Value):laidMetH Tryz.prog K6 ((World.doorLaid Tryz.prog 62 os).forCall (fun _ _=>0) ⟨#[],args,[]⟩).memory:=
 laidMetH_of_parts3 (fuel:=8) (laidMet_of_run' 8 (by kernel_rfl) (by kernel_rfl)) (by kernel_rfl) (by kernel_rfl)
theorem gT:Tryz.prog.globalNamed "internal/strconv.uint64pow10" =some 3:=by kernel_rfl
theorem gTy:(Tryz.prog.globals[3]?).map (·.type)=some 232:=by kernel_rfl
theorem uT:Tryz.prog.underlying 232=some (.array 20 220):=by kernel_rfl
theorem uE:Tryz.prog.underlying 220=some (.int .u64):=by kernel_rfl
theorem Si {W:World} (h:laidMetH Tryz.prog K6 W):V.Ground Tryz.prog W (V.wP W):=by
 rw[MakeChecks.laidMetH_plain _ _ _ (by kernel_rfl)] at h
 obtain ⟨ps,⟨g0,t0,cs0,f0,p0,q0,YZ,ht0,hv0,hd0,⟨g1,t1,cs1,f1,p1,q1,hg1,Wk,Jm,Xr,⟨g2,t2,cs2,f2,p2,q2,hg2,ht2,zc,hd2,⟨g3,t3,cs3,f3,p3,q3,hg3,ht3,hv3,hd3,⟨g4,t4,cs4,f4,p4,q4,hg4,ht4,hv4,hd4,_,_⟩,_⟩,_⟩,_⟩,_⟩,_,_⟩:=h
 obtain rfl:=Option.some.inj (gT.symm.trans hg2)
 obtain rfl:=Option.some.inj (gTy.symm.trans ht2)
 refine ⟨?_,?_⟩
 ·have hc:=Lib.cells_of_tab (k:= .u64) (zs:=Lib.pow10Tab) uT uE (by kernel_rfl) (by kernel_rfl) hd2
  intro b hb
  obtain rfl:=Option.some.inj (gT.symm.trans hb)
  refine ⟨V.Sj gT zc,?_⟩
  rw[show V.ye= "internal/strconv.uint64pow10" from rfl,zc]
  exact congrArg some (Array.toArray_toList.symm.trans (congrArg List.toArray hc))
 ·intro b hb
  have gE:Tryz.prog.globalNamed "strconv.ErrSyntax" =some 1:=by kernel_rfl
  obtain rfl:=Option.some.inj (gE.symm.trans hg4)
  obtain rfl:=Option.some.inj ((show (Tryz.prog.globals[1]?).map (·.type)=some 155 by kernel_rfl).symm.trans ht4)
  obtain rfl:=Option.some.inj (gE.symm.trans hb)
  obtain ⟨u,x,sf⟩:=V.Nn Tryz.underlying155 hd4
  refine ⟨V.Sj gE hv4,u,x,?_⟩
  rw[show V.En= "strconv.ErrSyntax" from rfl,hv4]
  exact congrArg some (Array.toArray_toList.symm.trans (congrArg List.toArray sf))
set_option maxRecDepth 100000 in
theorem lifted (os:Os) (started:os.Started) (H:Type) (enc:TypeId×Value->H):
 ReturnsInHanded {} Tryz.checked os 7 .any (fun w args=>(Rows.fnExactConsoleLineSpec.pre enc Tryz.prog Tryz.f7 [] false w args/\laidMetH Tryz.prog K6 w)/\sizedMet enc Tryz.prog Tryz.f7 (OpenSpec.ofChange Rows.fnExactConsoleLineSpec) false w args) (Rows.fnExactConsoleLineSpec.post enc Tryz.prog Tryz.f7 false true false false):=by
 refine returnsInHanded_of_change_and (C:=Tryz.checked) (X:=fun w _=>laidMetH Tryz.prog K6 w) (fun _ _ _ hh h=>h.of_heap hh) own started (by kernel_rfl) Tryz.func7
  (ChangeSpec.witness_shaped (enc:=enc) (C:=Tryz.checked) (os:=os) (X:=fun w _=>laidMetH Tryz.prog K6 w) false (World.doorLaid Tryz.prog 62 os) #[.agg #[.int .i64 0,.int .i64 0,.bool false,.bool false,.slice none 0 0,.slice none 0 0,.int .i64 0,.int .i64 0,.slice none 0 0,.bool false,.slice none 0 0,.int .i64 0,.int .i64 0,.bool false,.bool false,.slice none 0 0,.slice none 0 0,.int .i64 0,.int .i64 0,.slice none 0 0,.slice none 0 0,.slice none 0 0,.int .i64 0,.int .i64 0,.int .i64 0,.slice none 0 0,.slice none 0 0],.string ByteArray.empty] 8 rfl (World.shaped_of_RefB (by kernel_rfl) (by kernel_rfl)) (by kernel_rfl) (by kernel_rfl) (by kernel_rfl) (Sh os _)) ?_
 intro W base args ds gs before ZM hW _ _ hL _
 have EL: ∀(j:Nat) t v,Tryz.f7.params[j]? =some t->args[j]? =some v->Value.okWide Tryz.prog W .any base t v:=ZM
 have hW':=hW
 obtain ⟨p,q,hA0,hV,rfl,Y0,sq⟩:=hW
 have hA:DataW.TrodAll enc Tryz.prog W 0 (fun _=>true) true Tryz.f7.params.toList args.toList ds p:=hA0
 obtain ⟨rfl,rfl⟩:=trodVars_none hV
 rw[Tryz.params7] at hA EL
 obtain ⟨Cf,hrel,abZ⟩:=V.H7 M.tok (Zf:=V.wP W) (ts:=[29,9]) (by kernel_rfl) (fun j t v e1 e2=>EL j t v (by simpa using e1) (by simpa using e2)) (show DataW.TrodAll enc Tryz.prog W 0 (fun _=>true) true [29,9] args.toList ds p from hA)
 obtain ⟨v0,vs0,t0,ts0,p0,q0,jX,rfl,rfl,h0,r0⟩:=trodAll_cons hA
 obtain ⟨v1,vs1,t1,ts1,p1,q1,rfl,rfl,rfl,h1,r1⟩:=trodAll_cons r0
 obtain ⟨rfl,rfl,rfl⟩:=trodAll_nil r1
 obtain rfl:args= #[v0,v1]:=by cases args;simp_all
 have lt0: ∀x∈p0,x.block<W.heap.size:=by obtain ⟨m,hm⟩:=h0;exact DataW.trod_lt m _ _ _ hm
 have lt1: ∀x∈p1,x.block<W.heap.size:=by obtain ⟨m,hm⟩:=h1;exact DataW.trod_lt m _ _ _ hm
 obtain ⟨d0,ds0,rfl,oa0,ab0⟩:=V.P6 abZ
 obtain ⟨e0,rfl,aej⟩:=V.acW (show M.tt 29=some ⟨.struct [(0,24),(8,22),(9,4),(10,22),(11,27),(25,22),(26,25)],27,376⟩ by kernel_rfl) oa0
 rw[show V.bn M.tt V.depth 29=[3,3,4,4,22,22,3,3,22,4,22,3,3,4,4,22,22,3,3,25,22,22,3,3,3,22,25] by kernel_rfl] at aej
 obtain ⟨ams,ajh,rfl,agO,agQ⟩:=V.iX aej
 obtain ⟨agR,rfl,agS⟩:=V.PS (show M.tt 3=some ⟨.int .i64,1,8⟩ by kernel_rfl) agO
 obtain ⟨amt,aji,rfl,agT,agU⟩:=V.iX agQ
 obtain ⟨agV,rfl,agW⟩:=V.PS (show M.tt 3=some ⟨.int .i64,1,8⟩ by kernel_rfl) agT
 obtain ⟨amu,ajj,rfl,agZ,ag0⟩:=V.iX agU
 obtain ⟨ag1,rfl⟩:=V.abe (show M.tt 4=some ⟨.bool,1,1⟩ by kernel_rfl) agZ
 obtain ⟨amv,ajk,rfl,ag2,ag3⟩:=V.iX ag0
 obtain ⟨ag4,rfl⟩:=V.abe (show M.tt 4=some ⟨.bool,1,1⟩ by kernel_rfl) ag2
 obtain ⟨amw,ajl,rfl,ag5,ag6⟩:=V.iX ag3
 obtain ⟨ag8,rfl,ag9,ag_⟩:=V.QA (k:= .i64) (show M.tt 22=some ⟨.slice 3,1,24⟩ by kernel_rfl) (by kernel_rfl) ag5
 obtain ⟨amx,ajm,rfl,aha,ahb⟩:=V.iX ag6
 obtain ⟨ahc,rfl,ahd,ahe⟩:=V.QA (k:= .i64) (show M.tt 22=some ⟨.slice 3,1,24⟩ by kernel_rfl) (by kernel_rfl) aha
 obtain ⟨amy,ajn,rfl,ahf,ahg⟩:=V.iX ahb
 obtain ⟨ahh,rfl,ahi⟩:=V.PS (show M.tt 3=some ⟨.int .i64,1,8⟩ by kernel_rfl) ahf
 obtain ⟨amz,ajo,rfl,ahj,ahk⟩:=V.iX ahg
 obtain ⟨ahl,rfl,ahm⟩:=V.PS (show M.tt 3=some ⟨.int .i64,1,8⟩ by kernel_rfl) ahj
 obtain ⟨amA,ajp,rfl,ahn,aho⟩:=V.iX ahk
 obtain ⟨ahp,rfl,ahq,ahr⟩:=V.QA (k:= .i64) (show M.tt 22=some ⟨.slice 3,1,24⟩ by kernel_rfl) (by kernel_rfl) ahn
 obtain ⟨amB,ajq,rfl,ahs,aek⟩:=V.iX aho
 obtain ⟨aht,rfl⟩:=V.abe (show M.tt 4=some ⟨.bool,1,1⟩ by kernel_rfl) ahs
 obtain ⟨ajr,ahu,rfl,ael,aen⟩:=V.iX aek
 obtain ⟨aeo,rfl,aeq,aes⟩:=V.QA (k:= .i64) (show M.tt 22=some ⟨.slice 3,1,24⟩ by kernel_rfl) (by kernel_rfl) ael
 obtain ⟨ajs,ahv,rfl,aet,aeu⟩:=V.iX aen
 obtain ⟨aev,rfl,aew⟩:=V.PS (show M.tt 3=some ⟨.int .i64,1,8⟩ by kernel_rfl) aet
 obtain ⟨ajt,ahw,rfl,aex,aey⟩:=V.iX aeu
 obtain ⟨aez,rfl,aeA⟩:=V.PS (show M.tt 3=some ⟨.int .i64,1,8⟩ by kernel_rfl) aex
 obtain ⟨aju,ahA,rfl,aeB,aeC⟩:=V.iX aey
 obtain ⟨aeD,rfl⟩:=V.abe (show M.tt 4=some ⟨.bool,1,1⟩ by kernel_rfl) aeB
 obtain ⟨ajv,ahB,rfl,aeF,aeG⟩:=V.iX aeC
 obtain ⟨aeH,rfl⟩:=V.abe (show M.tt 4=some ⟨.bool,1,1⟩ by kernel_rfl) aeF
 obtain ⟨ajw,ahD,rfl,aeI,aeJ⟩:=V.iX aeG
 obtain ⟨aeK,rfl,aeL,aeM⟩:=V.QA (k:= .i64) (show M.tt 22=some ⟨.slice 3,1,24⟩ by kernel_rfl) (by kernel_rfl) aeI
 obtain ⟨ajx,ahE,rfl,aeN,aeO⟩:=V.iX aeJ
 obtain ⟨aeP,rfl,aeQ,aeR⟩:=V.QA (k:= .i64) (show M.tt 22=some ⟨.slice 3,1,24⟩ by kernel_rfl) (by kernel_rfl) aeN
 obtain ⟨ajy,ahF,rfl,aeS,aeT⟩:=V.iX aeO
 obtain ⟨aeU,rfl,aeV⟩:=V.PS (show M.tt 3=some ⟨.int .i64,1,8⟩ by kernel_rfl) aeS
 obtain ⟨ajz,ahG,rfl,aeW,aeX⟩:=V.iX aeT
 obtain ⟨aeY,rfl,aeZ⟩:=V.PS (show M.tt 3=some ⟨.int .i64,1,8⟩ by kernel_rfl) aeW
 obtain ⟨ajA,ahH,rfl,ae0,ae1⟩:=V.iX aeX
 obtain ⟨ae2,rfl,ae3,ae4⟩:=V.abJ (show M.tt 25=some ⟨.slice 22,1,24⟩ by kernel_rfl) (by kernel_rfl) ae0
 obtain ⟨ajB,ahI,rfl,ae5,ae6⟩:=V.iX ae1
 obtain ⟨ae7,rfl,ae8,ae9⟩:=V.QA (k:= .i64) (show M.tt 22=some ⟨.slice 3,1,24⟩ by kernel_rfl) (by kernel_rfl) ae5
 obtain ⟨ajC,ahJ,rfl,ae_,afa⟩:=V.iX ae6
 obtain ⟨afb,rfl,afc,afd⟩:=V.QA (k:= .i64) (show M.tt 22=some ⟨.slice 3,1,24⟩ by kernel_rfl) (by kernel_rfl) ae_
 obtain ⟨ajD,ahK,rfl,afe,aff⟩:=V.iX afa
 obtain ⟨afg,rfl,afh⟩:=V.PS (show M.tt 3=some ⟨.int .i64,1,8⟩ by kernel_rfl) afe
 obtain ⟨ajE,ahL,rfl,afi,afj⟩:=V.iX aff
 obtain ⟨afk,rfl,afl⟩:=V.PS (show M.tt 3=some ⟨.int .i64,1,8⟩ by kernel_rfl) afi
 obtain ⟨ajF,ahM,rfl,afm,afo⟩:=V.iX afj
 obtain ⟨afp,rfl,afq⟩:=V.PS (show M.tt 3=some ⟨.int .i64,1,8⟩ by kernel_rfl) afm
 obtain ⟨ajG,ahN,rfl,afr,afs⟩:=V.iX afo
 obtain ⟨aft,rfl,afu,afv⟩:=V.QA (k:= .i64) (show M.tt 22=some ⟨.slice 3,1,24⟩ by kernel_rfl) (by kernel_rfl) afr
 obtain ⟨ajH,ahO,rfl,afw,afx⟩:=V.iX afs
 obtain ⟨afy,rfl,afz,afA⟩:=V.abJ (show M.tt 25=some ⟨.slice 22,1,24⟩ by kernel_rfl) (by kernel_rfl) afw
 obtain rfl:=V.ab3 afx
 obtain ⟨d1,Ws,rfl,oa1,ahP⟩:=V.P6 ab0
 obtain ⟨e1,rfl,ob1⟩:=V.ZN (by kernel_rfl) oa1
 obtain ⟨x1,rfl,i1⟩:=V.UY (show M.tt 9=some ⟨.str,1,16⟩ by kernel_rfl) ob1
 obtain rfl:=V.Sk ahP
 have hc:=(rr.aB V.cy).2 ((agR,agV,ag1,ag4,ag8,ahc,ahh,ahl,ahp,aht,aeo,aev,aez,aeD,aeH,aeK,aeP,aeU,aeY,ae2,ae7,afb,afg,afk,afp,aft,afy,()),x1,()) true (rr.eq (Nat.le_refl _) agS agW ag_ ag9 ahe ahd ahi ahm ahr ahq aes aeq aew aeA aeM aeL aeR aeQ aeV aeZ ae4 ae3 ae9 ae8 afd afc afh afl afq afv afu afA afz i1)
 refine (V.Hr (Si hL) rfl hc hrel).mono fun e W' ⟨he,wC⟩=> ?_
 subst he
 exact ⟨_,rfl,_,_,_,[],_,[],hW',trodAll_mk1 (shut_bool Tryz.underlying4 _),(trodAll_cons_mk (Below.trod laidOut (by kernel_rfl) (of_decide_eq_true (by kernel_rfl)) h0 wC lt0) (trodAll_cons_mk (Below.trod laidOut (by kernel_rfl) (of_decide_eq_true (by kernel_rfl)) h1 wC lt1) trodAll_mk0)),rfl,wC.frame _,fun h=>by cases h⟩
theorem over:Rows.fnExactConsoleLineRow.holds Tryz.pinned (OpenSpec.ofChange Rows.fnExactConsoleLineSpec):=
 OpenClaim.holds_of_wide 7 Tryz.f7 rfl rfl rfl rfl rfl rfl rfl ⟨rfl,rfl,rfl,rfl,rfl⟩ rfl rfl rfl rfl rfl (by kernel_rfl) Tryz.func7 closed
  (of_decide_eq_true (by kernel_rfl)) (by unfold Func.isWrapper;first| (rw[if_pos (by decide+kernel)];kernel_rfl)| (rw[if_neg (by decide+kernel)];exact ⟨rfl,rfl⟩))
  (fun os started H enc _=>lifted os started H enc)
