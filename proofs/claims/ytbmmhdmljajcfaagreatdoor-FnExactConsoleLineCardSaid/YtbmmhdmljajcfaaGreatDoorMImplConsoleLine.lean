/- That the Go functions come to the answers of the plain ones. Printed by a program. -/
import Derived.Test.YtbmmhdmljajcfaaGreatDoorT
import Derived.Test.YtbmmhdmljajcfaaGreatDoorFImplConsoleLine
import Derived.Test.YtbmmhdmljajcfaaGreatDoorParse
import Derived.Test.YtbmmhdmljajcfaaGreatDoorLeft
set_option linter.unusedVariables false
set_option maxRecDepth 100000
set_option maxHeartbeats 20000000
namespace Go.Proofs.YtbmmhdmljajcfaaGreatDoor
open Go V M Go.Proofs.Tryz
namespace bh
def S:=so 126 [22] [22] .own [.V] [.l .own (.ints .i64)]
theorem aB:Ct S f:=fun k=>c0 6 [] func126
end bh
namespace df
def S:=so 125 [31] [31] .own [.agg .bi Ps] [.agg .own Ps]
theorem aB:Ct S f:=fun k=>c0 12 [ce (bh.aB k)] func125
end df
namespace dx
def S:=so 128 [25] [25] .own [.l .bi .rows] [.l .own .rows]
def h3 (k:Nat):Lh S.Y:=⟨3,⟨[.l (.own 0),.W,.I,.I],[.W]⟩,fun K v0 v1 v2 v3=>l3 k v0 v1 (fun p0=>K (.exit 0) (bZ [2,3] [.N,.O 0] [oW p0])) k v2 v3⟩
theorem aB:Ct S f:=fun k=>c1 20 [ce (bh.aB k)] [(3,[3,7,8,9]),(100003,[2,3])] [h3 k] func128 (all_cons ((h3 k).fit fun K r v0 v1 v2 v3 h=>fm h (fun a m=>m v0 v1 a.1 a.2) fun _ _ v2 v3=>some (v2,v3)) all_nil)
end dx
namespace dA
def S:=so 127 [33] [33] .own [.agg .bi Dt] [.agg .own Dt]
theorem aB:Ct S f:=fun k=>c0 22 [ce (df.aB k),ce (bh.aB k),ce (dx.aB k)] func127
end dA
namespace ar
def S:=so 50 [35] [35] .own [.agg .bi qU] [.agg .own qU]
theorem aB:Ct S f:=fun k=>c0 24 [ce (df.aB k),ce (bh.aB k),ce (dA.aB k),ce (dx.aB k)] func50
end ar
namespace cb
def S:=so 103 [9,5] [57] .own [.l .bi .str,.l .bi (.int .u8)] [.l .own .strs]
def h3 (k:Nat):Lh S.Y:=⟨3,⟨[.l (.s),.l (.i .u8),.l (.own 0),.I,.I,.I],[.row false .strs]⟩,fun K v0 v1 v2 v3 v4 v5=>l3 k v0 v1 v3 (fun p0 p1=>K (.exit 0) (bZ [0,4,5,6] [.S v0,.N,.O 0,.J p0] [oS p1])) k v2 v4 v5⟩
theorem aB:Ct S f:=fun k=>c1 35 [] [(3,[0,1,5,6,10,11]),(100003,[0,4,5,6])] [h3 k] func103 (all_cons ((h3 k).fit fun K r v0 v1 v2 v3 v4 v5 h=>fm h (fun a m=>m v0 v1 a.1 v3 a.2.1 (t2 a)) fun _ _ v2 _ v4 v5=>some (v2,v4,v5)) all_nil)
end cb
namespace fE
def S:=so 98 [9] [57] .own [.l .bi .str] [.l .own .strs]
def h3 (k:Nat):Lh S.Y:=⟨3,⟨[.l (.own 0),.l (.own 1),.I,.I],[.row false .strs,.row false .strs]⟩,fun K v0 v1 v2 v3=>l3 k v0 v3 (fun p0=>K (.exit 0) (bZ [2,3] [.N,.O 0] [oS p0])) k v1 v2⟩
theorem aB:Ct S f:=fun k=>c1 22 [ce (cb.aB k)] [(3,[3,8,9,10]),(100003,[2,3])] [h3 k] func98 (all_cons ((h3 k).fit fun K r v0 v1 v2 v3 h=>fm h (fun a m=>m v0 a.1 a.2 v3) fun _ v1 v2 _=>some (v1,v2)) all_nil)
end fE
namespace dy
def S:=so 99 [9] [9,4] .own [.l .bi .str] [.l .own .str,.B]
theorem aB:Ct S f:=fun k=>c0 31 [] func99
end dy
namespace strconv_Itoa
def S:=so 163 [3] [9] .own [.I] [.l .own .str]
theorem aB (k:Nat):Hm prog S (f k):=⟨⟨f163,func163,by kernel_rfl,by kernel_rfl⟩,fun ⟨a,_⟩ r h=>by
 obtain ⟨h1,h2⟩:=aH h
 obtain ⟨g1,g2⟩:=ba h1
 cases h2
 exact Hn (by kernel_rfl) (fun n a b w t=>Tryz.strconv_Itoa n a b w t) (ao g1) (ao g2)⟩
end strconv_Itoa
namespace a_
def S:=so 90 [3] [9] .own [.I] [.l .own .str]
theorem aB:Ct S f:=fun k=>c0 5 [ce (strconv_Itoa.aB k)] func90
end a_
namespace aI
def S:=so 148 [3,3,3] [4] .own [.I,.I,.I] [.B]
theorem aB:Ct S f:=fun k=>c0 15 [] func148
end aI
namespace strconv_Atoi
def S:=so 221 [9] [3,155] .own [.l .bi .str] [.O,.l .own .err]
theorem aB (k:Nat):Hm prog S (f k):=⟨⟨f221,func221,by kernel_rfl,by kernel_rfl⟩,fun ⟨a,_⟩ r h=>by
 obtain ⟨h1,h2⟩:=aH h
 cases h2
 exact Ho (by kernel_rfl) (fun s n a b w=>Tryz.strconv_Atoi s n a b w) (fun s a b tp x w hv=>(Tryz.strconv_Atoi_err_var s a b tp x w hv).mono fun e w' ⟨N,he,_,_,hb⟩=>⟨N,he,hb⟩) (bD h1)⟩
end strconv_Atoi
namespace kV
def S:=so 130 [9] [3,4] .own [.l .bi .str] [.O,.B]
theorem aB:Ct S f:=fun k=>c0 28 [ce (a_.aB k),ce (aI.aB k),ce (strconv_Atoi.aB k)] func130
end kV
namespace mU
def S:=so 308 [3] [4] .own [.I] [.B]
theorem aB:Ct S f:=fun k=>c0 17 [ce (aI.aB k)] func308
end mU
namespace dO
def S:=so 240 [22] [4] .own [.V] [.B]
def h3 (k:Nat):Lh S.Y:=⟨3,⟨[.V,.I,.V,.I,.I],[]⟩,fun K v0 v1 v2 v3 v4=>l3 k v2 v3 (fun p0=>K .ret (bZ [0,2,3] [.V v0,.Q false,.J p0] [])) (fun p0=>K (.exit 0) (bZ [0,2,3] [.V v0,.N,.J p0] [])) k v1 v4⟩
theorem aB:Ct S f:=fun k=>c1 45 [ce (aI.aB k),ce (mU.aB k)] [(3,[0,3,6,7,8]),(100003,[0,2,3])] [h3 k] func240 (all_cons ((h3 k).fit fun K r v0 v1 v2 v3 v4 h=>fm h (fun a m=>m v0 a.1 v2 v3 a.2) fun _ v1 _ _ v4=>some (v1,v4)) all_nil)
end dO
namespace kW
def S:=so 245 [3] [9] .own [.I] [.l .own .str]
theorem aB:Ct S f:=fun k=>c0 31 [] func245
end kW
namespace cF
def S:=so 164 [22] [9] .own [.V] [.l .own .str]
def h5 (k:Nat):Lh S.Y:=⟨5,⟨[.l (.own 0),.V,.I,.I],[.row false .strs]⟩,fun K v0 v1 v2 v3=>l5 k v0 v1 (fun p0=>K (.exit 0) (bZ [2,3] [.N,.O 0] [oS p0])) k v2 v3⟩
theorem aB:Ct S f:=fun k=>c1 85 [ce (dO.aB k),ce (kW.aB k)] [(5,[3,11,12,13]),(100005,[2,3])] [h5 k] func164 (all_cons ((h5 k).fit fun K r v0 v1 v2 v3 h=>fm h (fun a m=>m v0 v1 a.1 a.2) fun _ _ v2 v3=>some (v2,v3)) all_nil)
end cF
namespace jN
def S:=so 131 [9] [22,4] .own [.l .bi .str] [.l .own (.ints .i64),.B]
theorem aB (k:Nat):Hm prog S (f k):=⟨⟨f131,func131,by kernel_rfl,by kernel_rfl⟩,fun ⟨a,_⟩ r h=>Ca.P3 (fun l r h=>(cF.aB k).2 (l,()) r h) h⟩
end jN
namespace strings_IndexByte
def S:=so 246 [9,5] [3] .own [.l .bi .str,.l .bi (.int .u8)] [.O]
theorem aB (k:Nat):Hm prog S (f k):=⟨⟨f246,func246,by kernel_rfl,by kernel_rfl⟩,fun ⟨a,g,_⟩ r h=>by
 have h:some _=some r:=h
 cases h
 exact zN (g:=se) (fun s c w=>Tryz.strings_IndexByte s c w) a g⟩
end strings_IndexByte
namespace fF
def S:=so 166 [9] [3] .own [.l .bi .str] [.O]
theorem aB:Ct S f:=fun k=>c0 24 [ce (strings_IndexByte.aB k)] func166
end fF
namespace bH
def S:=so 79 [3] [4] .own [.I] [.B]
theorem aB:Ct S f:=fun k=>c0 5 [ce (aI.aB k)] func79
end bH
namespace bo
def S:=so 142 [22] [4] .own [.V] [.B]
def h3 (k:Nat):Lh S.Y:=⟨3,⟨[.l (.arr 0 52),.V,.I,.I],[.row false .eQ]⟩,fun K v0 v1 v2 v3=>l3 k v0 v1 (K .ret (bZ [2] [.Q false] [])) (K (.exit 0) (bZ [2] [.N] [])) k v2 v3⟩
theorem aB:Ct S f:=fun k=>c1 24 [ce (bH.aB k)] [(3,[3,7,8,9]),(100003,[2])] [h3 k] func142 (all_cons ((h3 k).fit fun K r v0 v1 v2 v3 h=>fm h (fun a m=>m v0 v1 a.1 a.2) fun _ _ v2 v3=>some (v2,v3)) all_nil)
end bo
namespace eN
def S:=so 167 [9] [22,4] .own [.l .bi .str] [.l .own (.ints .i64),.B]
def h7 (k:Nat):Lh S.Y:=⟨7,⟨[.l (.s),.l (.own 0),.I],[.V]⟩,fun K v0 v1 v2=>l7 k v0 (fun p0=>K (.exit 0) (bZ [2,3,4] [.N,.N,.O 0] [oV p0])) k v1 v2⟩
theorem aB:Ct S f:=fun k=>c1 44 [ce (bo.aB k),ce (fF.aB k)] [(7,[0,4,5]),(100007,[2,3,4])] [h7 k] func167 (all_cons ((h7 k).fit fun K r v0 v1 v2 h=>fm h (fun a m=>m v0 a.1 a.2) fun _ v1 v2=>some (v1,v2)) all_nil)
end eN
namespace gB
def S:=so 100 [9,57] [22,22,4] .own [.l .bi .str,.l .bi .strs] [.l .own (.ints .i64),.l .own (.ints .i64),.B]
def h5 (k:Nat):Lh S.Y:=⟨5,⟨[.l (.s),.l (.own 0),.l (.own 1),.l (.val false false .strs),.I,.I],[.V,.V]⟩,fun K v0 v1 v2 v3 v4 v5=>l5 k v0 v1 v2 (fun p0 p1=>K .ret (bZ [4,5,6,7,8] [.one (.l (.nil)),.one (.l (.nil)),.Q false,.O 0,.O 1] [oV p0,oV p1])) (fun p0 p1=>K (.exit 0) (bZ [4,5,6,7,8] [.N,.N,.N,.O 0,.O 1] [oV p0,oV p1])) k v3 v4 v5⟩
theorem aB:Ct S f:=fun k=>c1 71 [ce (kV.aB k),ce (jN.aB k),ce (fF.aB k),ce (eN.aB k)] [(5,[0,7,8,22,23,24]),(100005,[4,5,6,7,8])] [h5 k] func100 (all_cons ((h5 k).fit fun K r v0 v1 v2 v3 v4 v5 h=>fm h (fun a m=>m v0 v1 v2 a.1 a.2.1 (t2 a)) fun _ _ _ v3 v4 v5=>some (v3,v4,v5)) all_nil)
end gB
namespace jl
def S:=so 158 [22] [4] .own [.V] [.B]
theorem aB:Ct S f:=fun k=>c0 10 [ce (dO.aB k)] func158
end jl
namespace dk
def S:=so 85 [31] [4] .own [.agg .bi Ps] [.B]
theorem aB:Ct S f:=fun k=>c0 39 [ce (aI.aB k),ce (jl.aB k)] func85
end dk
namespace jx
def S:=so 143 [22,3,3] [25,22,4] .own [.V,.I,.I] [.l .own .rows,.l .own (.ints .i64),.B]
def h5 (k:Nat):Lh S.Y:=⟨5,⟨[.V,.I,.I,.l (.own 0),.V,.I,.I],[.W]⟩,fun K v0 v1 v2 v3 v4 v5 v6=>l5 k v1 v3 v4 (fun p0=>K (.exit 0) (bZ [0,1,2,6,7,8,9] [.V v0,.J v1,.J v2,.N,.N,.N,.O 0] [oW p0])) k v5 v6⟩
theorem aB:Ct S f:=fun k=>c1 70 [ce (bh.aB k),ce (bo.aB k),ce (aI.aB k)] [(5,[0,1,2,9,41,42,43]),(100005,[0,1,2,6,7,8,9])] [h5 k] func143 (all_cons ((h5 k).fit fun K r v0 v1 v2 v3 v4 v5 v6 h=>fm h (fun a m=>m v0 v1 v2 v3 v4 a.1 a.2) fun _ _ _ _ _ v5 v6=>some (v5,v6)) all_nil)
end jx
namespace km
def S:=so 75 [31,22] [33,4] .own [.agg .bi Ps,.V] [.agg .own Dt,.B]
theorem aB:Ct S f:=fun k=>c0 44 [ce (dk.aB k),ce (df.aB k),ce (bh.aB k),ce (bo.aB k),ce (jx.aB k)] func75
end km
namespace jO
def S:=so 153 [22] [3] .own [.V] [.O]
def h3 (k:Nat):Lh S.Y:=⟨3,⟨[.I,.V,.I,.I],[]⟩,fun K v0 v1 v2 v3=>l3 k v1 v2 (fun p0=>K (.exit 0) (bZ [2,3] [.N,.J p0] [])) k v0 v3⟩
theorem aB:Ct S f:=fun k=>c1 17 [] [(3,[3,6,7,8]),(100003,[2,3])] [h3 k] func153 (all_cons ((h3 k).fit fun K r v0 v1 v2 v3 h=>fm h (fun a m=>m a.1 v1 v2 a.2) fun v0 _ _ v3=>some (v0,v3)) all_nil)
end jO
namespace kM
def S:=so 241 [22,3,3] [4] .own [.V,.I,.I] [.B]
def h2 (k:Nat):Lh S.Y:=⟨2,⟨[.I,.I,.V,.I,.I],[]⟩,fun K v0 v1 v2 v3 v4=>l2 k v0 v1 v2 v3 (K .ret (bZ [6] [.Q false] [])) (K (.exit 0) (bZ [6] [.N] [])) k v4⟩
theorem aB:Ct S f:=fun k=>c1 21 [ce (aI.aB k)] [(2,[1,2,9,10,11]),(100002,[6])] [h2 k] func241 (all_cons ((h2 k).fit fun K r v0 v1 v2 v3 v4 h=>fm h (fun a m=>m v0 v1 v2 v3 a) fun _ _ _ _ v4=>some v4) all_nil)
end kM
namespace nc
def S:=so 159 [3,22] [4] .own [.I,.V] [.B]
theorem aB:Ct S f:=fun k=>c0 22 [ce (aI.aB k),ce (jO.aB k),ce (kM.aB k)] func159
end nc
namespace fj
def S:=so 86 [3,25] [4] .own [.I,.l .bi .rows] [.B]
def h2 (k:Nat):Lh S.Y:=⟨2,⟨[.I,.W,.W,.I,.I],[]⟩,fun K v0 v1 v2 v3 v4=>l2 k v0 v2 v3 (K .ret (bZ [0,1,4] [.J v0,.W v1,.Q false] [])) (K (.exit 0) (bZ [0,1,4] [.J v0,.W v1,.N] [])) k v4⟩
theorem aB:Ct S f:=fun k=>c1 25 [ce (aI.aB k),ce (nc.aB k)] [(2,[0,1,7,8,9]),(100002,[0,1,4])] [h2 k] func86 (all_cons ((h2 k).fit fun K r v0 v1 v2 v3 v4 h=>fm h (fun a m=>m v0 v1 v2 v3 a) fun _ _ _ _ v4=>some v4) all_nil)
end fj
namespace ck
def S:=so 94 [22,22] [4] .own [.V,.V] [.B]
def h4 (k:Nat):Lh S.Y:=⟨4,⟨[.V,.V,.I,.I],[]⟩,fun K v0 v1 v2 v3=>l4 k v0 v1 v2 (K .ret (bZ [4] [.Q false] [])) (K (.exit 0) (bZ [4] [.N] [])) k v3⟩
theorem aB:Ct S f:=fun k=>c1 26 [] [(4,[0,1,12,13]),(100004,[4])] [h4 k] func94 (all_cons ((h4 k).fit fun K r v0 v1 v2 v3 h=>fm h (fun a m=>m v0 v1 v2 a) fun _ _ _ v3=>some v3) all_nil)
end ck
namespace ir
def S:=so 93 [31,31] [4] .own [.agg .bi Ps,.agg .bi Ps] [.B]
theorem aB:Ct S f:=fun k=>c0 59 [ce (ck.aB k)] func93
end ir
namespace gC
def S:=so 95 [25,25] [4] .own [.l .bi .rows,.l .bi .rows] [.B]
def h4 (k:Nat):Lh S.Y:=⟨4,⟨[.W,.W,.I,.I],[]⟩,fun K v0 v1 v2 v3=>l4 k v0 v1 v2 (K .ret (bZ [4] [.Q false] [])) (K (.exit 0) (bZ [4] [.N] [])) k v3⟩
theorem aB:Ct S f:=fun k=>c1 27 [ce (ck.aB k)] [(4,[0,1,12,13]),(100004,[4])] [h4 k] func95 (all_cons ((h4 k).fit fun K r v0 v1 v2 v3 h=>fm h (fun a m=>m v0 v1 v2 a) fun _ _ _ v3=>some v3) all_nil)
end gC
namespace gP
def S:=so 87 [33,33] [4] .own [.agg .bi Dt,.agg .bi Dt] [.B]
theorem aB:Ct S f:=fun k=>c0 52 [ce (ir.aB k),ce (ck.aB k),ce (gC.aB k)] func87
end gP
namespace fu
def S:=so 305 [25] [4] .own [.l .bi .rows] [.B]
def h3 (k:Nat):Lh S.Y:=⟨3,⟨[.l (.own 0),.W,.I,.I],[.V]⟩,fun K v0 v1 v2 v3=>l3 k v0 v1 (fun p0=>K (.exit 0) (bZ [2,3] [.N,.O 0] [oV p0])) k v2 v3⟩
theorem aB:Ct S f:=fun k=>c1 19 [ce (bo.aB k)] [(3,[3,7,8,9]),(100003,[2,3])] [h3 k] func305 (all_cons ((h3 k).fit fun K r v0 v1 v2 v3 h=>fm h (fun a m=>m v0 v1 a.1 a.2) fun _ _ v2 v3=>some (v2,v3)) all_nil)
end fu
namespace dU
def S:=so 306 [25] [3] .own [.l .bi .rows] [.O]
def h3 (k:Nat):Lh S.Y:=⟨3,⟨[.I,.W,.I,.I],[]⟩,fun K v0 v1 v2 v3=>l3 k v1 v2 (fun p0=>K (.exit 0) (bZ [2,3] [.N,.J p0] [])) k v0 v3⟩
theorem aB:Ct S f:=fun k=>c1 18 [] [(3,[3,6,7,8]),(100003,[2,3])] [h3 k] func306 (all_cons ((h3 k).fit fun K r v0 v1 v2 v3 h=>fm h (fun a m=>m a.1 v1 v2 a.2) fun v0 _ _ v3=>some (v0,v3)) all_nil)
end dU
namespace jm
def S:=so 238 [25] [4] .own [.l .bi .rows] [.B]
theorem aB:Ct S f:=fun k=>c0 10 [ce (fu.aB k),ce (dU.aB k)] func238
end jm
namespace dG
def S:=so 150 [33] [4] .own [.agg .bi Dt] [.B]
theorem aB:Ct S f:=fun k=>c0 57 [ce (dk.aB k),ce (dx.aB k),ce (aI.aB k),ce (jm.aB k)] func150
end dG
namespace gb
def S:=so 151 [33] [3] .own [.agg .bi Dt] [.O]
def h4 (k:Nat):Lh S.Y:=⟨4,⟨[.W,.I,.I],[]⟩,fun K v0 v1 v2=>l4 k v0 v1 (fun p0=>K .ret (bZ [2] [.J p0] [])) (K (.exit 0) (bZ [2] [.N] [])) k v2⟩
theorem aB:Ct S f:=fun k=>c1 21 [ce (dG.aB k)] [(4,[9,10,11]),(100004,[2])] [h4 k] func151 (all_cons ((h4 k).fit fun K r v0 v1 v2 h=>fm h (fun a m=>m v0 v1 a) fun _ _ v2=>some v2) all_nil)
end gb
namespace iO
def S:=so 82 [33] [4] .own [.agg .bi Dt] [.B]
theorem aB:Ct S f:=fun k=>c0 26 [ce (dG.aB k),ce (gb.aB k)] func82
end iO
namespace fG
def S:=so 236 [33] [33,4] .own [.agg .bi Dt] [.agg .own Dt,.B]
def h6 (k:Nat):Lh S.Y:=⟨6,⟨[.l (.ptr 0 0),.l (.ptr 1 0),.l (.ptr 2 0),.I,.I,.I],[.box [.I,.I,.b,.b,.V,.V,.I,.I,.W,.V,.V,.I,.I,.I],.box [.I,.I,.bc false,.bc false,.nil,.nil,.I,.I,.nil,.nil,.nil,.I,.I,.I],.box [.I,.I,.b,.b,.own 3,.own 4,.I,.I,.own 5,.own 6,.own 7,.I,.I,.I],.V,.V,.W,.V,.V]⟩,fun K v0 v1 v2 v3 v4 v5 v6 v7 v8 v9 v10 v11 v12 jD jE jd jT kL nH v21 nI mT v24 pO pP tc v28 wX v30 v31 R8 Nk R9 R_ Au v37 oQ Em=>l6 k v1 jE (fun p0 p1 p2 p3=>K (.exit 0) (bZ [1,2,3,4,5] [.one (.l (.je 0 0)),.one (.l (.je 1 0)),.N,.one (.l (.je 2 0)),.J p0] [some (.box 0 [.J v3,.J v4,.b v5,.b v6,.V v7,.V v8,.J v9,.J v10,.W v11,.V v12,.V jD,.J jE,.J jd,.J jT]),some (.box 0 [.J kL,.J nH,.b false,.b false,.nil,.nil,.J v21,.J nI,.nil,.nil,.nil,.J mT,.J v24,.J pO]),some (.box 0 [.J pP,.J tc,.b v28,.b wX,.own 3,.own 4,.J v30,.J v31,.own 5,.own 6,.own 7,.J R8,.J Nk,.J R9]),oV R_,oV Au,oW p1,oV p2,oV p3])) k v0 v2 v37 oQ Em⟩
theorem aB:Ct S f:=fun k=>c1 91 [ce (iO.aB k),ce (bh.aB k),ce (dA.aB k),ce (dG.aB k)] [(6,[1,2,4,5,19,20]),(100006,[1,2,3,4,5])] [h6 k] func236 (all_cons ((h6 k).fit fun K r v0 v1 v2 v3 v4 v5 v6 v7 v8 v9 v10 v11 v12 jD jE jd jT kL nH v21 nI mT v24 pO pP tc v28 wX v30 v31 R8 Nk R9 R_ Au v37 oQ Em h=>fm h (fun a m=>m a.1 v1 a.2.1 v3 v4 v5 v6 v7 v8 v9 v10 v11 v12 jD jE jd jT kL nH v21 nI mT v24 pO pP tc v28 wX v30 v31 R8 Nk R9 R_ Au (p2 a) (p3 a) (t4 a)) fun v0 _ v2 _ _ _ _ _ _ _ _ _ _ _ _ _ _ _ _ _ _ _ _ _ _ _ _ _ _ _ _ _ _ _ _ v37 oQ Em=>some (v0,v2,v37,oQ,Em)) all_nil)
end fG
namespace db
def S:=so 252 [22] [22] .own [.V] [.l .own (.ints .i64)]
def h6 (k:Nat):Lh S.Y:=⟨6,⟨[.l (.own 0),.I,.I,.V,.I,.I],[.V]⟩,fun K v0 v1 v2 v3 v4 v5=>l6 k v0 v5 (fun p0=>K (.exit 2) (bZ [2,3,5,6,8,9,10] [.N,.O 0,.J v0,.J p0,.V v2,.J v3,.J v4] [oV v5])) k v1⟩
def h3 (k:Nat):Lh S.Y:=⟨3,⟨[.l (.own 0),.V,.I,.I],[.V]⟩,fun K v0 v1 v2 v3=>l3 k v0 v1 (fun p0=>K (.exit 0) (bZ [2,3] [.N,.O 0] [oV p0])) k v2 v3⟩
theorem aB:Ct S f:=fun k=>c1 46 [] [(6,[3,5,6,8,9,10]),(100006,[2,3,5,6,8,9,10]),(3,[3,8,9,10]),(100003,[2,3])] [h6 k,h3 k] func252 (all_cons ((h3 k).fit fun K r v0 v1 v2 v3 h=>fm h (fun a m=>m v0 v1 a.1 a.2) fun _ _ v2 v3=>some (v2,v3)) (all_cons ((h6 k).fit fun K r v0 v1 v2 v3 v4 v5 h=>fm h (fun a m=>m v0 a v2 v3 v4 v5) fun _ v1 _ _ _ _=>some v1) all_nil))
end db
namespace bU
def S:=so 249 [3] [3] .own [.I] [.O]
theorem aB:Ct S f:=fun k=>c0 8 [ce (bH.aB k)] func249
end bU
namespace cV
def S:=so 313 [3] [3] .own [.I] [.O]
theorem aB:Ct S f:=fun k=>c0 8 [ce (bH.aB k)] func313
end cV
namespace pn
def S:=so 346 [3] [4] .own [.I] [.B]
theorem aB:Ct S f:=fun k=>c0 11 [ce (bU.aB k)] func346
end pn
namespace pv
def S:=so 318 [3,3] [4] .own [.I,.I] [.B]
theorem aB:Ct S f:=fun k=>c0 31 [ce (bU.aB k),ce (cV.aB k),ce (pn.aB k)] func318
end pv
namespace dX
def S:=so 267 [22,3] [4] .own [.V,.I] [.B]
def h5 (k:Nat):Lh S.Y:=⟨5,⟨[.I,.l (.own 0),.V,.I,.I],[.row false .eQ]⟩,fun K v0 v1 v2 v3 v4=>l5 k v0 v1 v2 (fun p0=>K (.exit 0) (bZ [4,5] [.N,.O 0] [oB p0])) k v3 v4⟩
theorem aB:Ct S f:=fun k=>c1 89 [ce (bH.aB k),ce (dO.aB k),ce (pv.aB k)] [(5,[1,5,18,19,20]),(100005,[4,5])] [h5 k] func267 (all_cons ((h5 k).fit fun K r v0 v1 v2 v3 v4 h=>fm h (fun a m=>m v0 v1 v2 a.1 a.2) fun _ _ _ v3 v4=>some (v3,v4)) all_nil)
end dX
namespace nM
def S:=so 255 [31,3,3] [4] .own [.agg .bi Ps,.I,.I] [.B]
theorem aB:Ct S f:=fun k=>c0 46 [ce (bH.aB k),ce (dk.aB k),ce (bU.aB k),ce (dX.aB k),ce (cV.aB k)] func255
end nM
namespace eA
def S:=so 179 [33] [22] .own [.agg .bi Dt] [.l .own (.ints .i64)]
def h5 (k:Nat):Lh S.Y:=⟨5,⟨[.l (.ptr 0 0),.l (.own 1),.l (.own 2),.I,.I],[.box [.I,.I,.b,.b,.V,.V,.I,.I,.W,.V,.V,.I,.I,.I],.V,.V]⟩,fun K v0 v1 v2 v3 v4 v5 v6 v7 v8 v9 _ _ v12 _ _ _ jT kL=>l5 k v0 v2 v3 v4 v5 v6 v7 v8 v9 v12 kL (fun p0=>K (.exit 0) (bZ [2,3] [.N,.O 0] [oV p0])) k v1 jT⟩
theorem aB:Ct S f:=fun k=>c1 44 [ce (iO.aB k),ce (dG.aB k),ce (db.aB k),ce (nM.aB k)] [(5,[1,3,20,21,22]),(100005,[2,3])] [h5 k] func179 (all_cons ((h5 k).fit fun K r v0 v1 v2 v3 v4 v5 v6 v7 v8 v9 v10 v11 v12 jD jE jd jT kL h=>fm h (fun a m=>m v0 a.1 v2 v3 v4 v5 v6 v7 v8 v9 v10 v11 v12 jD jE jd a.2 kL) fun _ v1 _ _ _ _ _ _ _ _ _ _ _ _ _ _ jT _=>some (v1,jT)) all_nil)
end eA
namespace ko
def S:=so 314 [22,3] [3] .own [.V,.I] [.O]
def h2 (k:Nat):Lh S.Y:=⟨2,⟨[.I,.V,.I,.I],[]⟩,fun K v0 v1 v2 v3=>l2 k v0 v1 v2 (fun p0=>K .ret (bZ [4] [.J p0] [])) (K (.exit 0) (bZ [4] [.N] [])) k v3⟩
theorem aB:Ct S f:=fun k=>c1 19 [] [(2,[1,7,8,9]),(100002,[4])] [h2 k] func314 (all_cons ((h2 k).fit fun K r v0 v1 v2 v3 h=>fm h (fun a m=>m v0 v1 v2 a) fun _ _ _ v3=>some v3) all_nil)
end ko
namespace iP
def S:=so 263 [22,3] [4] .own [.V,.I] [.B]
theorem aB:Ct S f:=fun k=>c0 9 [ce (ko.aB k)] func263
end iP
namespace gL
def S:=so 264 [22,3] [22] .own [.V,.I] [.l .own (.ints .i64)]
def h3 (k:Nat):Lh S.Y:=⟨3,⟨[.I,.l (.own 0),.V,.I,.I],[.V]⟩,fun K v0 v1 v2 v3 v4=>l3 k v0 v1 v2 (fun p0=>K (.exit 0) (bZ [4,5] [.N,.O 0] [oV p0])) k v3 v4⟩
theorem aB:Ct S f:=fun k=>c1 24 [] [(3,[1,5,9,10,11]),(100003,[4,5])] [h3 k] func264 (all_cons ((h3 k).fit fun K r v0 v1 v2 v3 v4 h=>fm h (fun a m=>m v0 v1 v2 a.1 a.2) fun _ _ _ v3 v4=>some (v3,v4)) all_nil)
end gL
namespace mg
def S:=so 304 [31,3] [4] .own [.agg .bi Ps,.I] [.B]
theorem aB:Ct S f:=fun k=>c0 13 [ce (dk.aB k),ce (dX.aB k)] func304
end mg
namespace nN
def S:=so 237 [33,3] [33,4] .own [.agg .bi Dt,.I] [.agg .own Dt,.B]
theorem aB:Ct S f:=fun k=>c0 54 [ce (dA.aB k),ce (eA.aB k),ce (iP.aB k),ce (gL.aB k),ce (mg.aB k)] func237
end nN
namespace iu
def S:=so 149 [33,3] [33,4] .own [.agg .bi Dt,.I] [.agg .own Dt,.B]
theorem aB:Ct S f:=fun k=>c0 17 [ce (fG.aB k),ce (nN.aB k)] func149
end iu
namespace dJ
def S:=so 88 [33,22] [33,3] .own [.agg .bi Dt,.V] [.agg .own Dt,.O]
def h3 (k:Nat):Lh S.Y:=⟨3,⟨[.V,.l (.ptr 0 0),.l (.ptr 1 0),.V,.I,.I],[.box [.I,.I,.bc false,.bc false,.nil,.nil,.I,.I,.nil,.nil,.nil,.I,.I,.I],.box [.I,.I,.b,.b,.own 2,.own 3,.I,.I,.own 4,.own 5,.own 6,.I,.I,.I],.V,.V,.W,.V,.V]⟩,fun K v0 v1 v2 v3 v4 v5 v8 v9 v10 v11 v12 jD jE jd jT kL nH nz v20 v21 nI mT v24 pO pP=>l3 k v1 v2 (fun p0 p1 p2 p3 p4 p5 p6 p7 p8 p9 qo rA qK td wV=>K .ret (bZ [1,4,5,6] [.V v0,.one (.l (.je 0 0)),.J p0,.one (.l (.je 6 0))] [some (.box 0 [.J p1,.J p2,.b p3,.b p4,.own 1,.own 2,.J p5,.J p6,.own 3,.own 4,.own 5,.J p7,.J p8,.J p9]),oV qo,oV rA,oW qK,oV td,oV wV,some (.box 0 [.J p1,.J p2,.b p3,.b p4,.own 1,.own 2,.J p5,.J p6,.own 3,.own 4,.own 5,.J p7,.J p8,.J p9])])) (fun p0 p1 p2 p3 p4 p5 p6 p7 p8 p9 qo rA qK td=>K (.exit 0) (bZ [1,4,5,6] [.V v0,.one (.l (.je 0 0)),.N,.one (.l (.je 1 0))] [some (.box 0 [.J v4,.J v5,.b false,.b false,.nil,.nil,.J v8,.J v9,.nil,.nil,.nil,.J v10,.J v11,.J v12]),some (.box 0 [.J p0,.J p1,.b p2,.b p3,.own 2,.own 3,.J p4,.J p5,.own 4,.own 5,.own 6,.J p6,.J p7,.J p8]),oV p9,oV qo,oW rA,oV qK,oV td])) k v3 jD jE jd jT kL nH nz v20 v21 nI mT v24 pO pP⟩
theorem aB:Ct S f:=fun k=>c1 35 [ce (dA.aB k),ce (iu.aB k)] [(3,[1,4,6,13,14,15]),(100003,[1,4,5,6])] [h3 k] func88 (all_cons ((h3 k).fit fun K r v0 v1 v2 v3 v4 v5 v8 v9 v10 v11 v12 jD jE jd jT kL nH nz v20 v21 nI mT v24 pO pP h=>fm h (fun a m=>m v0 v1 v2 a.1 v4 v5 v8 v9 v10 v11 v12 a.2.1 (p2 a) (p3 a) (p4 a) (p5 a) (p6 a) (p7 a) (p8 a) (p9 a) (qo a) (rA a) (qK a) (td a) (t9 (t5 a))) fun _ _ _ v3 _ _ _ _ _ _ _ jD jE jd jT kL nH nz v20 v21 nI mT v24 pO pP=>some (v3,jD,jE,jd,jT,kL,nH,nz,v20,v21,nI,mT,v24,pO,pP)) all_nil)
end dJ
namespace jn
def S:=so 27 [35] [4] .own [.agg .bi qU] [.B]
theorem aB:Ct S f:=fun k=>c0 85 [ce (km.aB k),ce (dk.aB k),ce (fj.aB k),ce (gP.aB k),ce (dJ.aB k)] func27
end jn
namespace bu
def S:Sp:=⟨52,⟨[35,35,4],[35,4],[.qp,.Hp,.qp],.own⟩,[.agg .bi qU,.agg .own qU,.l .bi .bool],[.agg .own qU,.B]⟩
theorem aB:Ct S f:=fun k=>c0 23 [ce (jn.aB k),ce (ar.aB k)] func52
end bu
namespace jK
def S:=so 80 [35,3] [35,4] .own [.agg .bi qU,.I] [.agg .own qU,.B]
theorem aB:Ct S f:=fun k=>c0 36 [ce (ar.aB k),ce (bu.aB k),ce (iu.aB k)] func80
end jK
namespace iv
def S:=so 21 [35,3] [35,4] .own [.agg .bi qU,.I] [.agg .own qU,.B]
theorem aB:Ct S f:=fun k=>c0 16 [ce (ar.aB k),ce (bH.aB k),ce (jK.aB k)] func21
end iv
namespace iw
def S:=so 23 [35] [35,4] .own [.agg .bi qU] [.agg .own qU,.B]
theorem aB:Ct S f:=fun k=>c0 8 [ce (jK.aB k)] func23
end iw
namespace nf
def S:=so 307 [3] [3] .own [.I] [.O]
theorem aB:Ct S f:=fun k=>c0 17 [ce (cV.aB k)] func307
end nf
namespace hD
def S:=so 239 [22] [3] .own [.V] [.O]
def h3 (k:Nat):Lh S.Y:=⟨3,⟨[.I,.V,.I,.I],[]⟩,fun K v0 v1 v2 v3=>l3 k v1 v2 (fun p0=>K (.exit 0) (bZ [2,3] [.N,.J p0] [])) k v0 v3⟩
theorem aB:Ct S f:=fun k=>c1 18 [ce (nf.aB k)] [(3,[3,6,7,8]),(100003,[2,3])] [h3 k] func239 (all_cons ((h3 k).fit fun K r v0 v1 v2 v3 h=>fm h (fun a m=>m a.1 v1 v2 a.2) fun v0 _ _ v3=>some (v0,v3)) all_nil)
end hD
namespace gp
def S:=so 152 [33] [22] .own [.agg .bi Dt] [.l .own (.ints .i64)]
def h3 (k:Nat):Lh S.Y:=⟨3,⟨[.l (.own 0),.W,.I,.I],[.V]⟩,fun K v0 v1 v2 v3=>l3 k v0 v1 (fun p0=>K (.exit 0) (bZ [2,3] [.N,.O 0] [oV p0])) k v2 v3⟩
theorem aB:Ct S f:=fun k=>c1 21 [ce (hD.aB k)] [(3,[3,8,9,10]),(100003,[2,3])] [h3 k] func152 (all_cons ((h3 k).fit fun K r v0 v1 v2 v3 h=>fm h (fun a m=>m v0 v1 a.1 a.2) fun _ _ v2 v3=>some (v2,v3)) all_nil)
end gp
namespace ib
def S:=so 81 [33] [22] .own [.agg .bi Dt] [.l .own (.ints .i64)]
def h8 (k:Nat):Lh S.Y:=⟨8,⟨[.I,.l (.own 0),.l (.own 1),.l (.own 0),.I,.I],[.V,.V]⟩,fun K v0 v1 v2 v3 v4=>l8 k v1 v3 (fun p0=>K (.exit 0) (bZ [2,3,4,5] [.N,.J v0,.O 0,.O 1] [oV v3,oV p0])) k v2 v4⟩
theorem aB:Ct S f:=fun k=>c1 40 [ce (dG.aB k),ce (gb.aB k),ce (gp.aB k),ce (jO.aB k)] [(8,[3,4,5,21,22,23]),(100008,[2,3,4,5])] [h8 k] func81 (all_cons ((h8 k).fit fun K r v0 v1 v2 v3 v4 h=>fm h (fun a m=>m v0 v1 a.1 v3 a.2) fun _ _ v2 _ v4=>some (v2,v4)) all_nil)
end ib
namespace iy
def S:=so 25 [35] [35,4] .own [.agg .bi qU] [.agg .own qU,.B]
theorem aB:Ct S f:=fun k=>c0 36 [ce (ar.aB k),ce (bu.aB k),ce (ib.aB k),ce (iO.aB k)] func25
end iy
namespace oT
def S:=so 168 [31] [35,4] .own [.agg .bi Ps] [.agg .own qU,.B]
theorem aB:Ct S f:=fun k=>c0 11 [ce (dk.aB k),ce (df.aB k)] func168
end oT
namespace nO
def S:=so 169 [] [31] .own [] [.agg .own Ps]
theorem aB:Ct S f:=fun k=>c0 4 [] func169
end nO
namespace la
def S:=so 228 [3,3] [3] .own [.I,.I] [.O]
theorem aB:Ct S f:=fun k=>c0 15 [ce (aI.aB k)] func228
end la
namespace j_
def S:=so 229 [22] [3] .own [.V] [.O]
def h3 (k:Nat):Lh S.Y:=⟨3,⟨[.I,.V,.I,.I],[]⟩,fun K v0 v1 v2 v3=>l3 k v1 v2 (fun p0=>K (.exit 0) (bZ [2,3] [.N,.J p0] [])) k v0 v3⟩
theorem aB:Ct S f:=fun k=>c1 21 [ce (la.aB k)] [(3,[3,6,7,8]),(100003,[2,3])] [h3 k] func229 (all_cons ((h3 k).fit fun K r v0 v1 v2 v3 h=>fm h (fun a m=>m a.1 v1 v2 a.2) fun v0 _ _ v3=>some (v0,v3)) all_nil)
end j_
namespace jL
def S:=so 247 [3,3,3] [3] .own [.I,.I,.I] [.O]
theorem aB:Ct S f:=fun k=>c0 12 [ce (j_.aB k)] func247
end jL
namespace dp
def S:=so 170 [31,22,3] [160] .own [.agg .bi Ps,.V,.I] [.l .own (.ek [false,false,true,true])]
def h5 (k:Nat):Lh S.Y:=⟨5,⟨[.V,.I,.l (.own 0),.l (.own 1),.V,.I,.I],[.row true (.ek [false,false,true,true]),.V]⟩,fun K v0 v1 v2 v3 v4 v5 v6=>l5 k v1 v2 v3 (fun p0 p1=>K (.exit 0) (bZ [1,6,7,8] [.V v0,.N,.O 0,.O 1] [some (.row 0 0 (.ek [false,false,true,true] true p0)),oV p1])) k v4 v5 v6⟩
theorem aB:Ct S f:=fun k=>c1 50 [ce (dk.aB k),ce (bh.aB k),ce (jL.aB k)] [(5,[1,2,7,8,23,24,25]),(100005,[1,6,7,8])] [h5 k] func170 (all_cons ((h5 k).fit fun K r v0 v1 v2 v3 v4 v5 v6 h=>fm h (fun a m=>m v0 v1 v2 v3 a.1 a.2.1 (t2 a)) fun _ _ _ _ v4 v5 v6=>some (v4,v5,v6)) all_nil)
end dp
namespace mh
def S:=so 17 [35,3] [35,4] .own [.agg .bi qU,.I] [.agg .own qU,.B]
theorem aB:Ct S f:=fun k=>c0 32 [ce (ar.aB k),ce (bu.aB k)] func17
end mh
namespace mi
def S:=so 227 [3,3,3,3] [4] .own [.I,.I,.I,.I] [.B]
theorem aB:Ct S f:=fun k=>c0 23 [ce (aI.aB k),ce (jL.aB k)] func227
end mi
namespace fa
def S:=so 138 [22,22,22] [4] .own [.V,.V,.V] [.B]
def h5 (k:Nat):Lh S.Y:=⟨5,⟨[.V,.V,.V,.I,.I],[]⟩,fun K v0 v1 v2 v3 v4=>l5 k v0 v1 v2 v3 (K .ret (bZ [6] [.Q false] [])) (K (.exit 0) (bZ [6] [.N] [])) k v4⟩
theorem aB:Ct S f:=fun k=>c1 47 [ce (aI.aB k),ce (mi.aB k)] [(5,[0,1,2,27,28]),(100005,[6])] [h5 k] func138 (all_cons ((h5 k).fit fun K r v0 v1 v2 v3 v4 h=>fm h (fun a m=>m v0 v1 v2 v3 a) fun _ _ _ _ v4=>some v4) all_nil)
end fa
namespace gD
def S:=so 139 [22,3] [22] .own [.V,.I] [.l .own (.ints .i64)]
def h3 (k:Nat):Lh S.Y:=⟨3,⟨[.I,.l (.own 0),.I],[.V]⟩,fun K v0 v1 v2=>l3 k v0 (fun p0=>K (.exit 0) (bZ [4,5] [.N,.O 0] [oV p0])) k v1 v2⟩
theorem aB:Ct S f:=fun k=>c1 39 [ce (bh.aB k),ce (la.aB k),ce (j_.aB k)] [(3,[1,5,6]),(100003,[4,5])] [h3 k] func139 (all_cons ((h3 k).fit fun K r v0 v1 v2 h=>fm h (fun a m=>m v0 a.1 a.2) fun _ v1 v2=>some (v1,v2)) all_nil)
end gD
namespace jo
def S:=so 230 [22] [22] .own [.V] [.l .own (.ints .i64)]
def h3 (k:Nat):Lh S.Y:=⟨3,⟨[.V,.l (.own 0),.I],[.V]⟩,fun K v0 v1 v2=>l3 k v0 (fun p0=>K (.exit 0) (bZ [2,3] [.N,.O 0] [oV p0])) k v1 v2⟩
theorem aB:Ct S f:=fun k=>c1 19 [ce (iP.aB k)] [(3,[0,3,6]),(100003,[2,3])] [h3 k] func230 (all_cons ((h3 k).fit fun K r v0 v1 v2 h=>fm h (fun a m=>m v0 a.1 a.2) fun _ v1 v2=>some (v1,v2)) all_nil)
end jo
namespace mj
def S:=so 140 [] [22] .own [] [.l .own (.ints .i64)]
theorem aB:Ct S f:=fun k=>c0 2 [ce (jo.aB k)] func140
end mj
namespace fb
def S:=so 141 [22] [3] .own [.V] [.O]
def h3 (k:Nat):Lh S.Y:=⟨3,⟨[.I,.V,.I,.I],[]⟩,fun K v0 v1 v2 v3=>l3 k v1 v2 (fun p0=>K (.exit 0) (bZ [2,3] [.N,.J p0] [])) k v0 v3⟩
theorem aB:Ct S f:=fun k=>c1 19 [ce (la.aB k)] [(3,[3,6,7,8]),(100003,[2,3])] [h3 k] func141 (all_cons ((h3 k).fit fun K r v0 v1 v2 v3 h=>fm h (fun a m=>m a.1 v1 v2 a.2) fun v0 _ _ v3=>some (v0,v3)) all_nil)
end fb
namespace lb
def S:=so 74 [22,22,22] [22,4] .own [.V,.V,.V] [.l .own (.ints .i64),.B]
theorem aB:Ct S f:=fun k=>c0 17 [ce (fa.aB k),ce (gD.aB k),ce (mj.aB k),ce (fb.aB k)] func74
end lb
namespace ml
def S:=so 76 [35] [4] .own [.agg .bi qU] [.B]
theorem aB:Ct S f:=fun k=>c0 15 [] func76
end ml
namespace mm
def S:=so 19 [35,22,22] [35,4] .own [.agg .bi qU,.V,.V] [.agg .own qU,.B]
theorem aB:Ct S f:=fun k=>c0 50 [ce (ar.aB k),ce (bu.aB k),ce (lb.aB k),ce (km.aB k),ce (ml.aB k)] func19
end mm
namespace kN
def S:=so 171 [35,163] [35,4] .own [.agg .bi qU,.agg .bi Wi] [.agg .own qU,.B]
theorem aB:Ct S f:=fun k=>c0 48 [ce (mh.aB k),ce (mm.aB k),ce (iv.aB k),ce (iw.aB k),ce (iy.aB k),ce (ar.aB k)] func171
end kN
namespace gq
def S:=so 248 [22] [22] .own [.V] [.l .own (.ints .i64)]
def h3 (k:Nat):Lh S.Y:=⟨3,⟨[.l (.own 0),.V,.I,.I],[.V]⟩,fun K v0 v1 v2 v3=>l3 k v0 v1 (fun p0=>K (.exit 0) (bZ [2,3] [.N,.O 0] [oV p0])) k v2 v3⟩
theorem aB:Ct S f:=fun k=>c1 24 [ce (bH.aB k),ce (bU.aB k)] [(3,[3,7,8,9]),(100003,[2,3])] [h3 k] func248 (all_cons ((h3 k).fit fun K r v0 v1 v2 v3 h=>fm h (fun a m=>m v0 v1 a.1 a.2) fun _ _ v2 v3=>some (v2,v3)) all_nil)
end gq
namespace iz
def S:=so 172 [33,3] [3] .own [.agg .bi Dt,.I] [.O]
def M6 (k:Nat):Lh S.Y:=⟨12,⟨[.l (.own 0),.I,.l (.own 1),.I,.I],[.V,.V]⟩,fun K v0 v1 v2 v3 v4=>RV k v1 v3 v4 (fun p0=>K (.exit 1) (bZ [4,7] [.N,.J p0] [])) k v0 v2⟩
theorem aB:Ct S f:=fun k=>c1 61 [ce (eA.aB k),ce (gq.aB k),ce (bU.aB k)] [(12,[6,7,41,42,43]),(100012,[4,7])] [M6 k] func172 (all_cons ((M6 k).fit fun K r v0 v1 v2 v3 v4 h=>fm h (fun a m=>m a.1 v1 a.2 v3 v4) fun v0 _ v2 _ _=>some (v0,v2)) all_nil)
end iz
namespace bO
def S:=so 101 [35,9,22] [35,4] .bi [.agg .bi qU,.l .bi .str,.V] [.agg .bi qU,.l .bi .bool]
def h7 (k:Nat):Lh S.YM:=⟨7,⟨[.l (.ptr 0 0),.l (.ptr 1 0),.l (.ptr 2 0),.l (.own 14),.I,.I],[.box [.I,.I,.b,.b,.V,.V,.I,.I,.V,.b,.V,.I,.I,.b,.b,.V,.V,.I,.I,.W,.V,.V,.I,.I,.I,.V,.W],.box [.I,.I,.bc false,.bc false,.nil,.nil,.I,.I,.nil,.bc false,.nil,.I,.I,.bc false,.bc false,.nil,.nil,.I,.I,.nil,.nil,.nil,.I,.I,.I,.nil,.nil],.box [.I,.I,.b,.b,.own 3,.own 4,.I,.I,.own 5,.b,.own 6,.I,.I,.b,.b,.own 7,.own 8,.I,.I,.own 9,.own 10,.own 11,.I,.I,.I,.own 12,.own 13],.V,.V,.V,.V,.V,.V,.W,.V,.V,.V,.W,.row true (.ek [false,false,true,true])]⟩,fun K v0 v1 v2 v3 v4 v5 v6 v7 v8 v9 v10 v11 v12 jD jE jd jT kL nH nz v20 v21 nI mT v24 pO pP tc v28 wX v30 Nk R9 Au v37 v40 Xs Xt Xu OW GX v46 GY GZ v49 G0 v51 G3 v53 G4 G5 G6 G7 G8 v59 G9 G_ Ha Hb Hc He Hf Hg Hh Hi v70 EG v72=>l7 k v0 v72 (fun p0 p1 p2 p3 p4 p5 p6 p7 p8 p9 qo rA qK td wV y7 y8 yW yX y9 y_ za yY yZ y0 vl C6=>K .ret (bZ [2,3,6,7,8] [.N,.one (.l (.je 0 0)),.one (.l (.je 1 0)),.Q false,.one (.l (.je 2 0))] [some (.box 0 [.J v2,.J v3,.b v4,.b v5,.V v6,.V v7,.J v8,.J v9,.V v10,.b v11,.V v12,.J jD,.J jE,.b jd,.b jT,.V kL,.V nH,.J nz,.J v20,.W v21,.V nI,.V mT,.J v24,.J pO,.J pP,.V tc,.W v28]),some (.box 0 [.J v2,.J v3,.b v4,.b v5,.V v6,.V v7,.J v8,.J v9,.V v10,.b v11,.V v12,.J jD,.J jE,.b jd,.b jT,.V kL,.V nH,.J nz,.J v20,.W v21,.V nI,.V mT,.J v24,.J pO,.J pP,.V tc,.W v28]),some (.box 0 [.J p0,.J p1,.b p2,.b p3,.own 3,.own 4,.J p4,.J p5,.own 5,.b p6,.own 6,.J p7,.J p8,.b p9,.b qo,.own 7,.own 8,.J rA,.J qK,.own 9,.own 10,.own 11,.J td,.J wV,.J y7,.own 12,.own 13]),oV y8,oV yW,oV yX,oV y9,oV y_,oV za,oW yY,oV yZ,oV y0,oV vl,oW C6])) (fun p0 p1 p2 p3 p4 p5 p6 p7 p8 p9 qo rA qK td wV y7 y8 yW yX y9 y_ za yY yZ y0 vl C6=>K (.exit 1) (bZ [2,3,6,7,8] [.N,.one (.l (.je 0 0)),.one (.l (.je 1 0)),.N,.one (.l (.je 2 0))] [some (.box 0 [.J v2,.J v3,.b v4,.b v5,.V v6,.V v7,.J v8,.J v9,.V v10,.b v11,.V v12,.J jD,.J jE,.b jd,.b jT,.V kL,.V nH,.J nz,.J v20,.W v21,.V nI,.V mT,.J v24,.J pO,.J pP,.V tc,.W v28]),some (.box 0 [.J wX,.J v30,.b false,.b false,.nil,.nil,.J Nk,.J R9,.nil,.b false,.nil,.J Au,.J v37,.b false,.b false,.nil,.nil,.J v40,.J Xs,.nil,.nil,.nil,.J Xt,.J Xu,.J OW,.nil,.nil]),some (.box 0 [.J p0,.J p1,.b p2,.b p3,.own 3,.own 4,.J p4,.J p5,.own 5,.b p6,.own 6,.J p7,.J p8,.b p9,.b qo,.own 7,.own 8,.J rA,.J qK,.own 9,.own 10,.own 11,.J td,.J wV,.J y7,.own 12,.own 13]),oV y8,oV yW,oV yX,oV y9,oV y_,oV za,oW yY,oV yZ,oV y0,oV vl,oW C6])) k v1 GX v46 GY GZ v49 G0 v51 G3 v53 G4 G5 G6 G7 G8 v59 G9 G_ Ha Hb Hc He Hf Hg Hh Hi v70 EG⟩
theorem aB:CtM S f:=fun k=>c1M 83 [ce (iv.aB k),ce (iw.aB k),ce (iy.aB k),ce (ar.aB k),ce (oT.aB k),ce (nO.aB k),ce (dp.aB k),ce (kN.aB k),ce (iz.aB k)] [(7,[3,6,8,27,28,29]),(100007,[2,3,6,7,8]),(400000,[])] [h7 k] func101 (all_cons ((h7 k).fit fun K r v0 v1 v2 v3 v4 v5 v6 v7 v8 v9 v10 v11 v12 jD jE jd jT kL nH nz v20 v21 nI mT v24 pO pP tc v28 wX v30 Nk R9 Au v37 v40 Xs Xt Xu OW GX v46 GY GZ v49 G0 v51 G3 v53 G4 G5 G6 G7 G8 v59 G9 G_ Ha Hb Hc He Hf Hg Hh Hi v70 EG v72 h=>fm h (fun a m=>m v0 a.1 v2 v3 v4 v5 v6 v7 v8 v9 v10 v11 v12 jD jE jd jT kL nH nz v20 v21 nI mT v24 pO pP tc v28 wX v30 Nk R9 Au v37 v40 Xs Xt Xu OW a.2.1 (p2 a) (p3 a) (p4 a) (p5 a) (p6 a) (p7 a) (p8 a) (p9 a) (qo a) (rA a) (qK a) (td a) (wV a) (y7 a) (y8 a) (yW a) (yX a) (y9 a) (y_ a) (za a) (yY a) (yZ a) (y0 a) (vl a) (C6 a) (q27 a) v72) fun _ v1 _ _ _ _ _ _ _ _ _ _ _ _ _ _ _ _ _ _ _ _ _ _ _ _ _ _ _ _ _ _ _ _ _ _ _ _ _ _ GX v46 GY GZ v49 G0 v51 G3 v53 G4 G5 G6 G7 G8 v59 G9 G_ Ha Hb Hc He Hf Hg Hh Hi v70 EG _=>some (v1,GX,v46,GY,GZ,v49,G0,v51,G3,v53,G4,G5,G6,G7,G8,v59,G9,G_,Ha,Hb,Hc,He,Hf,Hg,Hh,Hi,v70,EG)) all_nil)
end bO
namespace strings_Join
def S:=so 89 [57,9] [9] .own [.l .bi .strs,.l .bi .str] [.l .own .str]
theorem aB (k:Nat):Hm prog S (f k):=⟨⟨f89,func89,by kernel_rfl,by kernel_rfl⟩,fun ⟨a,g,_⟩ r h=>by
 obtain ⟨h1,h2⟩:=aH h
 obtain ⟨g1,g2⟩:=ba h1
 cases h2
 exact Hq (fun bk o c xs sep w a b c' d e=>Tryz.strings_Join bk o c xs sep w a b c' d e) (fun a c sep w=>Tryz.strings_Join_none a c sep w) (bD g1) (bD g2)⟩
end strings_Join
namespace lc
def S:=so 91 [31] [9] .own [.agg .bi Ps] [.l .own .str]
theorem aB:Ct S f:=fun k=>c0 16 [] func91
end lc
namespace ji
def S:=so 92 [22] [9] .own [.V] [.l .own .str]
theorem aB:Ct S f:=fun k=>c0 8 [ce (cF.aB k)] func92
end ji
namespace ld
def S:=so 28 [31] [9] .own [.agg .bi Ps] [.l .own .str]
theorem aB:Ct S f:=fun k=>c0 35 [ce (dk.aB k),ce (strings_Join.aB k),ce (a_.aB k),ce (lc.aB k),ce (ji.aB k)] func28
end ld
namespace iY
def S:=so 173 [9,9] [9] .own [.l .bi .str,.l .bi .str] [.l .own .str]
theorem aB:Ct S f:=fun k=>c0 9 [] func173
end iY
namespace cK
def S:=so 250 [22,9] [9] .own [.V,.l .bi .str] [.l .own .str]
def h3 (k:Nat):Lh S.Y:=⟨3,⟨[.l (.s),.l (.own 0),.V,.I,.I],[.row false .strs]⟩,fun K v0 v1 v2 v3 v4=>l3 k v1 v2 (fun p0=>K (.exit 0) (bZ [1,4,5] [.S v0,.N,.O 0] [oS p0])) k v3 v4⟩
theorem aB:Ct S f:=fun k=>c1 24 [ce (strings_Join.aB k),ce (a_.aB k)] [(3,[1,5,9,10,11]),(100003,[1,4,5])] [h3 k] func250 (all_cons ((h3 k).fit fun K r v0 v1 v2 v3 v4 h=>fm h (fun a m=>m v0 v1 v2 a.1 a.2) fun _ _ _ v3 v4=>some (v3,v4)) all_nil)
end cK
namespace ka
def S:=so 174 [35] [9] .own [.agg .bi qU] [.l .own .str]
theorem aB:Ct S f:=fun k=>c0 19 [ce (cK.aB k)] func174
end ka
namespace gF
def S:=so 251 [3] [9] .own [.I] [.l .own .str]
theorem aB:Ct S f:=fun k=>c0 19 [ce (bH.aB k)] func251
end gF
namespace fJ
def S:=so 175 [33] [9] .own [.agg .bi Dt] [.l .own .str]
def h5 (k:Nat):Lh S.Y:=⟨5,⟨[.l (.ptr 0 0),.l (.s),.W,.I,.I],[.box [.I,.I,.b,.b,.V,.V,.I,.I,.W,.V,.V,.I,.I,.I]]⟩,fun K v0 v1 v2 v3 v4 v5 v6 v7 v8 v9 v10 v11 v12 jD jE jd jT kL=>l5 k v1 v2 (fun p0=>K (.exit 0) (bZ [1,2,3] [.one (.l (.je 0 0)),.N,.S p0] [some (.box 0 [.J v4,.J v5,.b v6,.b v7,.V v8,.V v9,.J v10,.J v11,.W v12,.V jD,.V jE,.J jd,.J jT,.J kL])])) k v0 v3⟩
theorem aB:Ct S f:=fun k=>c1 44 [ce (a_.aB k),ce (dG.aB k),ce (gF.aB k)] [(5,[1,3,24,25,26]),(100005,[1,2,3])] [h5 k] func175 (all_cons ((h5 k).fit fun K r v0 v1 v2 v3 v4 v5 v6 v7 v8 v9 v10 v11 v12 jD jE jd jT kL h=>fm h (fun a m=>m a.1 v1 v2 a.2 v4 v5 v6 v7 v8 v9 v10 v11 v12 jD jE jd jT kL) fun v0 _ _ v3 _ _ _ _ _ _ _ _ _ _ _ _ _ _=>some (v0,v3)) all_nil)
end fJ
namespace kO
def S:=so 253 [25] [22] .own [.l .bi .rows] [.l .own (.ints .i64)]
def h3 (k:Nat):Lh S.Y:=⟨3,⟨[.l (.own 0),.W,.I,.I],[.V]⟩,fun K v0 v1 v2 v3=>l3 k v0 v1 (fun p0=>K (.exit 0) (bZ [2,3] [.N,.O 0] [oV p0])) k v2 v3⟩
theorem aB:Ct S f:=fun k=>c1 20 [] [(3,[3,7,8,9]),(100003,[2,3])] [h3 k] func253 (all_cons ((h3 k).fit fun K r v0 v1 v2 v3 h=>fm h (fun a m=>m v0 v1 a.1 a.2) fun _ _ v2 v3=>some (v2,v3)) all_nil)
end kO
namespace nP
def S:=so 176 [33,3] [169,4] .own [.agg .bi Dt,.I] [.agg .own O0,.B]
theorem aB:Ct S f:=fun k=>c0 48 [ce (aI.aB k),ce (dG.aB k),ce (db.aB k),ce (kO.aB k)] func176
end nP
namespace eS
def S:=so 254 [22,3,9] [9] .own [.V,.I,.l .bi .str] [.l .own .str]
def h5 (k:Nat):Lh S.Y:=⟨5,⟨[.I,.l (.s),.l (.s),.V,.I,.I],[]⟩,fun K v0 v1 v2 v3 v4 v5=>l5 k v0 v1 v3 v4 (fun p0=>K (.exit 0) (bZ [6,7] [.N,.S p0] [])) k v2 v5⟩
theorem aB:Ct S f:=fun k=>c1 37 [ce (bH.aB k),ce (gF.aB k)] [(5,[1,2,7,13,14,15]),(100005,[6,7])] [h5 k] func254 (all_cons ((h5 k).fit fun K r v0 v1 v2 v3 v4 v5 h=>fm h (fun a m=>m v0 v1 a.1 v3 v4 a.2) fun _ _ v2 _ _ v5=>some (v2,v5)) all_nil)
end eS
namespace fK
def S:=so 178 [22] [9] .own [.V] [.l .own .str]
theorem aB:Ct S f:=fun k=>c0 5 [ce (eS.aB k)] func178
end fK
namespace fL
def S:=so 177 [169] [9] .own [.agg .bi O0] [.l .own .str]
def h6 (k:Nat):Lh S.Y:=⟨6,⟨[.l (.s),.V,.I,.I],[]⟩,fun K v0 v1 v2 v3=>l6 k v1 v2 (fun p0=>K (.exit 0) (bZ [2,4] [.N,.S p0] [])) k v0 v3⟩
theorem aB:Ct S f:=fun k=>c1 38 [ce (bH.aB k),ce (a_.aB k),ce (fK.aB k),ce (gF.aB k)] [(6,[4,25,26,27]),(100006,[2,4])] [h6 k] func177 (all_cons ((h6 k).fit fun K r v0 v1 v2 v3 h=>fm h (fun a m=>m a.1 v1 v2 a.2) fun v0 _ _ v3=>some (v0,v3)) all_nil)
end fL
namespace kP
def S:=so 180 [22] [9] .own [.V] [.l .own .str]
theorem aB:Ct S f:=fun k=>c0 5 [ce (eS.aB k)] func180
end kP
namespace eY
def S:=so 181 [25] [9] .own [.l .bi .rows] [.l .own .str]
def h5 (k:Nat):Lh S.Y:=⟨5,⟨[.l (.own 0),.W,.I,.I],[.row false .strs]⟩,fun K v0 v1 v2 v3=>l5 k v0 v1 (fun p0=>K (.exit 0) (bZ [2,3] [.N,.O 0] [oS p0])) k v2 v3⟩
theorem aB:Ct S f:=fun k=>c1 24 [ce (strings_Join.aB k),ce (cK.aB k)] [(5,[3,10,11,12]),(100005,[2,3])] [h5 k] func181 (all_cons ((h5 k).fit fun K r v0 v1 v2 v3 h=>fm h (fun a m=>m v0 v1 a.1 a.2) fun _ _ v2 v3=>some (v2,v3)) all_nil)
end eY
namespace kc
def S:=so 256 [35] [4] .own [.agg .bi qU] [.B]
theorem aB:Ct S f:=fun k=>c0 21 [ce (dx.aB k),ce (jm.aB k)] func256
end kc
namespace pe
def S:=so 257 [35] [4] .own [.agg .bi qU] [.B]
theorem aB:Ct S f:=fun k=>c0 10 [] func257
end pe
namespace pS
def S:=so 258 [35] [4] .own [.agg .bi qU] [.B]
theorem aB:Ct S f:=fun k=>c0 9 [ce (fj.aB k)] func258
end pS
namespace ng
def S:=so 182 [35] [9] .own [.agg .bi qU] [.l .own .str]
theorem aB:Ct S f:=fun k=>c0 19 [ce (jn.aB k),ce (kc.aB k),ce (pe.aB k),ce (pS.aB k)] func182
end ng
namespace eZ
def S:=so 183 [25] [9] .own [.l .bi .rows] [.l .own .str]
def h5 (k:Nat):Lh S.Y:=⟨5,⟨[.l (.own 0),.W,.I,.I],[.row false .strs]⟩,fun K v0 v1 v2 v3=>l5 k v0 v1 (fun p0=>K (.exit 0) (bZ [2,3] [.N,.O 0] [oS p0])) k v2 v3⟩
theorem aB:Ct S f:=fun k=>c1 24 [ce (strings_Join.aB k),ce (fK.aB k)] [(5,[3,10,11,12]),(100005,[2,3])] [h5 k] func183 (all_cons ((h5 k).fit fun K r v0 v1 v2 v3 h=>fm h (fun a m=>m v0 v1 a.1 a.2) fun _ _ v2 v3=>some (v2,v3)) all_nil)
end eZ
namespace gQ
def S:=so 259 [22] [4] .own [.V] [.B]
def h4 (k:Nat):Lh S.Y:=⟨4,⟨[.V,.V,.I,.I],[]⟩,fun K v0 v1 v2 v3=>l4 k v0 v1 v2 (K .ret (bZ [2] [.Q false] [])) (K (.exit 0) (bZ [2] [.N] [])) k v3⟩
theorem aB:Ct S f:=fun k=>c1 28 [ce (bo.aB k),ce (aI.aB k),ce (cV.aB k)] [(4,[0,14,15,16]),(100004,[2])] [h4 k] func259 (all_cons ((h4 k).fit fun K r v0 v1 v2 v3 h=>fm h (fun a m=>m v0 v1 v2 a) fun _ _ _ v3=>some v3) all_nil)
end gQ
namespace fc
def S:=so 260 [22] [4] .own [.V] [.B]
def h5 (k:Nat):Lh S.Y:=⟨5,⟨[.l (.own 0),.l (.own 0),.I,.I],[.V]⟩,fun K v0 v1 v2=>l5 k v0 v2 (K .ret (bZ [2] [.Q false] [])) (K (.exit 0) (bZ [2] [.N] [])) k v1⟩
theorem aB:Ct S f:=fun k=>c1 40 [ce (bo.aB k),ce (bU.aB k),ce (db.aB k)] [(5,[3,16,17,18]),(100005,[2])] [h5 k] func260 (all_cons ((h5 k).fit fun K r v0 v1 v2 h=>fm h (fun a m=>m v0 a v2) fun _ v1 _=>some v1) all_nil)
end fc
namespace iA
def S:=so 261 [22,22] [4] .own [.V,.V] [.B]
def h2 (k:Nat):Lh S.Y:=⟨2,⟨[.V,.V,.I,.I],[]⟩,fun K v0 v1 v2 v3=>l2 k v0 v1 v2 (fun p0=>K .ret (bZ [0,1,4] [.V v0,.V v1,.Q p0] [])) (K (.exit 0) (bZ [0,1,4] [.V v0,.V v1,.N] [])) k v3⟩
theorem aB:Ct S f:=fun k=>c1 39 [] [(2,[0,1,7,8]),(100002,[0,1,4])] [h2 k] func261 (all_cons ((h2 k).fit fun K r v0 v1 v2 v3 h=>fm h (fun a m=>m v0 v1 v2 a) fun _ _ _ v3=>some v3) all_nil)
end iA
namespace bz
def S:=so 184 [22] [25] .own [.V] [.l .own .rows]
def h9 (k:Nat):Lh S.Y:=⟨9,⟨[.l (.own 0),.l (.own 1),.I,.l (.own 2),.I,.I,.l (.own 0),.I,.I],[.V,.W,.V]⟩,fun K v0 v1 v2 v3 v4 v5 v6 v7=>l9 k v0 v3 v5 (fun p0=>K (.exit 2) (bZ [2,3,4,6,23,24] [.N,.O 0,.O 1,.O 2,.J v1,.J v2] [oV v5,oW v6,oV p0])) k v4 v7⟩
def Xv (k:Nat):Lh S.Y:=⟨16,⟨[.l (.own 0),.l (.own 1),.l (.own 2),.I,.I,.I],[.V,.W,.V]⟩,fun K v0 v1 v2 v3 v4 v5=>OT k v4 v5 (fun p0=>K (.exit 4) (bZ [2,3,4,6,9,23,24] [.N,.O 0,.O 1,.O 2,.J p0,.J v1,.J v2] [oV v3,oW v4,oV v5])) k v0⟩
def h5 (k:Nat):Lh S.Y:=⟨5,⟨[.l (.own 0),.l (.own 1),.I,.I],[.V,.W]⟩,fun K v0 v1 v2 v3=>l5 k v0 v2 (fun p0=>K (.exit 0) (bZ [2,4] [.N,.O 0] [oW p0])) k v1 v3⟩
theorem aB:Ct S f:=fun k=>c1 85 [ce (bo.aB k),ce (db.aB k),ce (gQ.aB k),ce (fc.aB k),ce (iA.aB k)] [(9,[3,4,5,6,23,24,28,29,30]),(100009,[2,3,4,6,23,24]),(16,[3,4,6,9,23,24]),(100016,[2,3,4,6,9,23,24]),(5,[3,4,23,24]),(100005,[2,4])] [h9 k,Xv k,h5 k] func184 (all_cons ((h5 k).fit fun K r v0 v1 v2 v3 h=>fm h (fun a m=>m v0 a.1 v2 a.2) fun _ v1 _ v3=>some (v1,v3)) (all_cons ((h9 k).fit fun K r v0 v1 v2 v3 v4 v5 v6 v7 h=>fm h (fun a m=>m v0 v1 v2 v3 a.1 v5 v6 a.2) fun _ _ _ _ v4 _ _ v7=>some (v4,v7)) (all_cons ((Xv k).fit fun K r v0 v1 v2 v3 v4 v5 h=>fm h (fun a m=>m a v1 v2 v3 v4 v5) fun v0 _ _ _ _ _=>some v0) all_nil)))
end bz
namespace mn
def S:=so 185 [22] [3] .own [.V] [.O]
theorem aB (k:Nat):Hm prog S (f k):=⟨⟨f185,func185,by kernel_rfl,by kernel_rfl⟩,fun ⟨a,_⟩ r h=>Ca.R7 (fun l r h=>(bo.aB k).2 (l,()) r h) (fun l r h=>(bz.aB k).2 (l,()) r h) (fun l r h=>(bh.aB k).2 (l,()) r h) (fun l r h=>(hD.aB k).2 (l,()) r h) (fun l c r h=>(iP.aB k).2 (l,c,()) r h) (fun l c r h=>(gL.aB k).2 (l,c,()) r h) h⟩
end mn
namespace cj
def S:=so 316 [22] [22,22] .own [.V] [.l .own (.ints .i64),.l .own (.ints .i64)]
def h3 (k:Nat):Lh S.Y:=⟨3,⟨[.l (.arr 0 13),.V,.I,.I],[.V]⟩,fun K v0 v1 v2 v3=>l3 k v0 v1 (fun p0=>K (.exit 0) (bZ [2,3,4] [.N,.N,.one (.l (.arr 0 13))] [oV p0])) k v2 v3⟩
def M6 (k:Nat):Lh S.Y:=⟨12,⟨[.l (.arr 0 13),.l (.own 1),.l (.own 2),.I,.I],[.V,.V,.V]⟩,fun K v0 v1 v2 v3 v4=>RV k v0 v2 (fun p0 p1=>K (.exit 4) (bZ [2,3,4,7,8,9] [.N,.N,.one (.l (.arr 0 13)),.O 1,.O 2,.J v0] [oV v2,oV p0,oV p1])) k v1 v3 v4⟩
def h9 (k:Nat):Lh S.Y:=⟨9,⟨[.l (.arr 0 13),.l (.own 1),.l (.own 2),.I],[.V,.V,.V]⟩,fun K v0 v1 v2 v3=>l9 k v1 (fun p0 p1=>K (.exit 2) (bZ [2,3,7,8] [.N,.N,.O 0,.O 1] [oV p0,oV p1])) k v0 v2 v3⟩
theorem aB:Ct S f:=fun k=>c1 50 [ce (cV.aB k)] [(3,[4,12,13,14]),(100003,[2,3,4]),(12,[4,7,8,9,10]),(100012,[2,3,4,7,8,9]),(9,[4,7,8,9]),(100009,[2,3,7,8])] [h3 k,M6 k,h9 k] func316 (all_cons ((h3 k).fit fun K r v0 v1 v2 v3 h=>fm h (fun a m=>m v0 v1 a.1 a.2) fun _ _ v2 v3=>some (v2,v3)) (all_cons ((h9 k).fit fun K r v0 v1 v2 v3 h=>fm h (fun a m=>m a.1 v1 a.2.1 (t2 a)) fun v0 _ v2 v3=>some (v0,v2,v3)) (all_cons ((M6 k).fit fun K r v0 v1 v2 v3 v4 h=>fm h (fun a m=>m v0 a.1 v2 a.2.1 (t2 a)) fun _ v1 _ v3 v4=>some (v1,v3,v4)) all_nil)))
end cj
namespace jj
def S:=so 317 [22] [3] .own [.V] [.O]
theorem aB:Ct S f:=fun k=>c0 23 [ce (ck.aB k)] func317
end jj
namespace il
def S:=so 315 [22] [3] .own [.V] [.O]
def h6 (k:Nat):Lh S.Y:=⟨6,⟨[.V,.l (.own 0),.l (.own 1),.l (.b),.V,.I,.I],[.V,.V]⟩,fun K v0 v1 v2 v3 v4 v5 v6=>l6 k v0 v2 v3 (fun p0=>K (.exit 0) (bZ [2,3,4,5] [.N,.O 0,.O 1,.Q p0] [oV v5,oV v6])) k v1 v4⟩
theorem aB:Ct S f:=fun k=>c1 88 [ce (bo.aB k),ce (bU.aB k),ce (cj.aB k),ce (jj.aB k)] [(6,[0,3,4,5,22,23,24]),(100006,[2,3,4,5])] [h6 k] func315 (all_cons ((h6 k).fit fun K r v0 v1 v2 v3 v4 v5 v6 h=>fm h (fun a m=>m v0 a.1 v2 v3 a.2 v5 v6) fun _ v1 _ _ v4 _ _=>some (v1,v4)) all_nil)
end il
namespace po
def S:=so 265 [22] [22] .own [.V] [.l .own (.ints .i64)]
theorem aB:Ct S f:=fun k=>c0 27 [ce (il.aB k),ce (cj.aB k),ce (jj.aB k)] func265
end po
namespace mq
def S:=so 266 [3] [9] .own [.I] [.l .own .str]
theorem aB:Ct S f:=fun k=>c0 10 [ce (aI.aB k)] func266
end mq
namespace lg
def S:=so 186 [22] [9] .own [.V] [.l .own .str]
theorem aB:Ct S f:=fun k=>c0 18 [ce (cK.aB k),ce (po.aB k),ce (mq.aB k)] func186
end lg
namespace iB
def S:=so 187 [22] [22] .own [.V] [.l .own (.ints .i64)]
def h3 (k:Nat):Lh S.Y:=⟨3,⟨[.V,.l (.own 0),.I],[.V]⟩,fun K v0 v1 v2=>l3 k v0 (fun p0=>K (.exit 0) (bZ [2,3] [.N,.O 0] [oV p0])) k v1 v2⟩
theorem aB:Ct S f:=fun k=>c1 18 [ce (dX.aB k)] [(3,[0,3,6]),(100003,[2,3])] [h3 k] func187 (all_cons ((h3 k).fit fun K r v0 v1 v2 h=>fm h (fun a m=>m v0 a.1 a.2) fun _ v1 v2=>some (v1,v2)) all_nil)
end iB
namespace nQ
def S:=so 268 [3,3,3] [4] .own [.I,.I,.I] [.B]
theorem aB:Ct S f:=fun k=>c0 29 [ce (bH.aB k),ce (bU.aB k),ce (cV.aB k)] func268
end nQ
namespace iC
def S:=so 188 [22,3] [3] .own [.V,.I] [.O]
def h5 (k:Nat):Lh S.Y:=⟨5,⟨[.V,.I,.I,.V,.I,.I],[]⟩,fun K v0 v1 v2 v3 v4 v5=>l5 k v0 v1 v3 v4 (fun p0=>K (.exit 0) (bZ [4,5] [.N,.J p0] [])) k v2 v5⟩
theorem aB:Ct S f:=fun k=>c1 33 [ce (bo.aB k),ce (nQ.aB k)] [(5,[0,1,5,16,17,18]),(100005,[4,5])] [h5 k] func188 (all_cons ((h5 k).fit fun K r v0 v1 v2 v3 v4 v5 h=>fm h (fun a m=>m v0 v1 a.1 v3 v4 a.2) fun _ _ v2 _ _ v5=>some (v2,v5)) all_nil)
end iC
namespace gd
def S:=so 102 [35,9,22,22] [9] .own [.agg .bi qU,.l .bi .str,.V,.V] [.l .own .str]
theorem aB:Ct S f:=fun k=>c0 91 [ce (ld.aB k),ce (a_.aB k),ce (iY.aB k),ce (ka.aB k),ce (fJ.aB k),ce (nP.aB k),ce (fL.aB k),ce (fK.aB k),ce (eA.aB k),ce (kP.aB k),ce (eY.aB k),ce (ng.aB k),ce (eZ.aB k),ce (bz.aB k),ce (mn.aB k),ce (lg.aB k),ce (iB.aB k),ce (iC.aB k)] func102
end gd
namespace gy
def S:=so 31 [35,9] [35,9] .own [.agg .bi qU,.l .bi .str] [.agg .own qU,.l .own .str]
theorem aB:Ct S f:=fun k=>c0 81 [ce (ar.aB k),ce (fE.aB k),ce (dy.aB k),ce (gB.aB k),ceM (bO.aB k),ce (gd.aB k)] func31
end gy
