/- That the Go functions come to the answers of the plain ones. Printed by a program. -/
import Derived.Test.YtbmmhdmljajcfaaGreatDoorT
import Derived.Test.YtbmmhdmljajcfaaGreatDoorFImplConsoleLine
import Derived.Test.YtbmmhdmljajcfaaGreatDoorParse
import Derived.Test.YtbmmhdmljajcfaaGreatDoorLeft
import Derived.Test.YtbmmhdmljajcfaaGreatDoorShelf
set_option linter.unusedVariables false
set_option maxRecDepth 100000
set_option maxHeartbeats 20000000
namespace Go.Proofs.YtbmmhdmljajcfaaGreatDoor
open Go Go.Proofs.YtbmmhdmljajcfaaGreatDoor.V Go.Proofs.YtbmmhdmljajcfaaGreatDoor.M
namespace aJ
def S:=so 126 [22] [22] .own [.V] [.l .own (.ints .i64)]
theorem aq:Ct S f:=fun k=>c0 6 [] Tryz.func126
end aJ
namespace bY
def S:=so 125 [31] [31] .own [.agg .aS ov] [.agg .own ov]
theorem aq:Ct S f:=fun k=>c0 12 [ce (aJ.aq k)] Tryz.func125
end bY
namespace bm
def S:=so 128 [25] [25] .own [.l .aS .rows] [.l .own .rows]
def h3 (k:Nat):Lh S.Y:=⟨3,⟨[.l (.own 0),.W,.I,.I],[.W]⟩,fun K v0 v1 v2 v3=>l3 k v0 v1 (fun p0=>K (.exit 0) (bZ [2,3] [.one (.l (.any)),.one (.l (.own 0))] [some (.row 0 0 (.rows true p0))])) k v2 v3⟩
theorem aq:Ct S f:=fun k=>c1 20 [ce (aJ.aq k)] [(3,[3,7,8,9]),(100003,[2,3])] [h3 k] Tryz.func128 (all_cons ((h3 k).fit fun K r v0 v1 v2 v3 h=>fm h (fun a m=>m v0 v1 a.1 a.2) fun _ _ v2 v3=>some (v2,v3)) all_nil)
end bm
namespace cN
def S:=so 127 [33] [33] .own [.agg .aS jV] [.agg .own jV]
theorem aq:Ct S f:=fun k=>c0 22 [ce (bY.aq k),ce (aJ.aq k),ce (bm.aq k)] Tryz.func127
end cN
namespace ah
def S:=so 50 [35] [35] .own [.agg .aS gF] [.agg .own gF]
theorem aq:Ct S f:=fun k=>c0 24 [ce (bY.aq k),ce (aJ.aq k),ce (cN.aq k),ce (bm.aq k)] Tryz.func50
end ah
namespace a_
def S:=so 103 [9,5] [57] .own [.l .aS .str,.l .aS (.int .u8)] [.l .own .strs]
def h3 (k:Nat):Lh S.Y:=⟨3,⟨[.l (.s),.l (.i .u8),.l (.own 0),.I,.I,.I],[.row false .strs]⟩,fun K v0 v1 v2 v3 v4 v5=>l3 k v0 v1 v3 (fun p0 p1=>K (.exit 0) (bZ [0,4,5,6] [.one (.l (.s v0)),.one (.l (.any)),.one (.l (.own 0)),.one (.l (.i .i64 p0))] [some (.row 0 0 (.strs p1))])) k v2 v4 v5⟩
theorem aq:Ct S f:=fun k=>c1 35 [] [(3,[0,1,5,6,10,11]),(100003,[0,4,5,6])] [h3 k] Tryz.func103 (all_cons ((h3 k).fit fun K r v0 v1 v2 v3 v4 v5 h=>fm h (fun a m=>m v0 v1 a.1 v3 a.2.1 (t2 a)) fun _ _ v2 _ v4 v5=>some (v2,v4,v5)) all_nil)
end a_
namespace cD
def S:=so 98 [9] [57] .own [.l .aS .str] [.l .own .strs]
def h3 (k:Nat):Lh S.Y:=⟨3,⟨[.l (.own 0),.l (.own 1),.I,.I],[.row false .strs,.row false .strs]⟩,fun K v0 v1 v2 v3=>l3 k v0 v3 (fun p0=>K (.exit 0) (bZ [2,3] [.one (.l (.any)),.one (.l (.own 0))] [some (.row 0 0 (.strs p0))])) k v1 v2⟩
theorem aq:Ct S f:=fun k=>c1 22 [ce (a_.aq k)] [(3,[3,8,9,10]),(100003,[2,3])] [h3 k] Tryz.func98 (all_cons ((h3 k).fit fun K r v0 v1 v2 v3 h=>fm h (fun a m=>m v0 a.1 a.2 v3) fun _ v1 v2 _=>some (v1,v2)) all_nil)
end cD
namespace cE
def S:=so 99 [9] [9,4] .own [.l .aS .str] [.l .own .str,.B]
theorem aq:Ct S f:=fun k=>c0 31 [] Tryz.func99
end cE
namespace strconv_Itoa
def S:=so 163 [3] [9] .own [.I] [.l .own .str]
theorem aq (k:Nat):G3 Tryz.prog S (f k):=⟨⟨Tryz.f163,Tryz.func163,by kernel_rfl,by kernel_rfl⟩,fun ⟨a,_⟩ r h=>by
 obtain ⟨h1,h2⟩:=ak h
 obtain ⟨g1,g2⟩:=aE h1
 cases h2
 exact CW (by kernel_rfl) (fun n a b w t=>Tryz.strconv_Itoa n a b w t) (of_decide_eq_true g1) (of_decide_eq_true g2)⟩
end strconv_Itoa
namespace aF
def S:=so 90 [3] [9] .own [.I] [.l .own .str]
theorem aq:Ct S f:=fun k=>c0 5 [ce (strconv_Itoa.aq k)] Tryz.func90
end aF
namespace an
def S:=so 148 [3,3,3] [4] .own [.I,.I,.I] [.B]
theorem aq:Ct S f:=fun k=>c0 15 [] Tryz.func148
end an
namespace strconv_Atoi
def S:=so 221 [9] [3,155] .own [.l .aS .str] [.O,.l .own .err]
theorem aq (k:Nat):G3 Tryz.prog S (f k):=⟨⟨Tryz.f221,Tryz.func221,by kernel_rfl,by kernel_rfl⟩,fun ⟨a,_⟩ r h=>by
 obtain ⟨h1,h2⟩:=ak h
 cases h2
 exact CX (by kernel_rfl) (fun s n a b w=>Tryz.strconv_Atoi s n a b w) (fun s a b tp x w hv=>(Tryz.strconv_Atoi_err_var s a b tp x w hv).mono fun e w' ⟨N,he,_,_,hb⟩=>⟨N,he,hb⟩) (Nat.le_of_ble_eq_true h1)⟩
end strconv_Atoi
namespace iO
def S:=so 130 [9] [3,4] .own [.l .aS .str] [.O,.B]
theorem aq:Ct S f:=fun k=>c0 28 [ce (aF.aq k),ce (an.aq k),ce (strconv_Atoi.aq k)] Tryz.func130
end iO
namespace kh
def S:=so 308 [3] [4] .own [.I] [.B]
theorem aq:Ct S f:=fun k=>c0 17 [ce (an.aq k)] Tryz.func308
end kh
namespace bq
def S:=so 240 [22] [4] .own [.V] [.B]
def h3 (k:Nat):Lh S.Y:=⟨3,⟨[.V,.I,.V,.I,.I],[]⟩,fun K v0 v1 v2 v3 v4=>l3 k v2 v3 (fun p0=>K .ret (bZ [0,2,3] [.one (.l (.val false (.ints .i64 v0))),.one (.l (.b false)),.one (.l (.i .i64 p0))] [])) (fun p0=>K (.exit 0) (bZ [0,2,3] [.one (.l (.val false (.ints .i64 v0))),.one (.l (.any)),.one (.l (.i .i64 p0))] [])) k v1 v4⟩
theorem aq:Ct S f:=fun k=>c1 45 [ce (an.aq k),ce (kh.aq k)] [(3,[0,3,6,7,8]),(100003,[0,2,3])] [h3 k] Tryz.func240 (all_cons ((h3 k).fit fun K r v0 v1 v2 v3 v4 h=>fm h (fun a m=>m v0 a.1 v2 v3 a.2) fun _ v1 _ _ v4=>some (v1,v4)) all_nil)
end bq
namespace iP
def S:=so 245 [3] [9] .own [.I] [.l .own .str]
theorem aq:Ct S f:=fun k=>c0 31 [] Tryz.func245
end iP
namespace aR
def S:=so 164 [22] [9] .own [.V] [.l .own .str]
def h5 (k:Nat):Lh S.Y:=⟨5,⟨[.l (.own 0),.V,.I,.I],[.row false .strs]⟩,fun K v0 v1 v2 v3=>l5 k v0 v1 (fun p0=>K (.exit 0) (bZ [2,3] [.one (.l (.any)),.one (.l (.own 0))] [some (.row 0 0 (.strs p0))])) k v2 v3⟩
theorem aq:Ct S f:=fun k=>c1 85 [ce (bq.aq k),ce (iP.aq k)] [(5,[3,11,12,13]),(100005,[2,3])] [h5 k] Tryz.func164 (all_cons ((h5 k).fit fun K r v0 v1 v2 v3 h=>fm h (fun a m=>m v0 v1 a.1 a.2) fun _ _ v2 v3=>some (v2,v3)) all_nil)
end aR
namespace gJ
def S:=so 131 [9] [22,4] .own [.l .aS .str] [.l .own (.ints .i64),.B]
theorem aq (k:Nat):G3 Tryz.prog S (f k):=⟨⟨Tryz.f131,Tryz.func131,by kernel_rfl,by kernel_rfl⟩,fun ⟨a,_⟩ r h=>yl.MC (fun l r h=>(aR.aq k).2 (l,()) r h) h⟩
end gJ
namespace strings_IndexByte
def S:=so 246 [9,5] [3] .own [.l .aS .str,.l .aS (.int .u8)] [.O]
theorem aq (k:Nat):G3 Tryz.prog S (f k):=⟨⟨Tryz.f246,Tryz.func246,by kernel_rfl,by kernel_rfl⟩,fun ⟨a,g,_⟩ r h=>by
 have h:some _=some r:=h
 cases h
 exact vG (g:=oX) (fun s c w=>Tryz.strings_IndexByte s c w) a g⟩
end strings_IndexByte
namespace dZ
def S:=so 166 [9] [3] .own [.l .aS .str] [.O]
theorem aq:Ct S f:=fun k=>c0 24 [ce (strings_IndexByte.aq k)] Tryz.func166
end dZ
namespace aT
def S:=so 79 [3] [4] .own [.I] [.B]
theorem aq:Ct S f:=fun k=>c0 5 [ce (an.aq k)] Tryz.func79
end aT
namespace aB
def S:=so 142 [22] [4] .own [.V] [.B]
def h3 (k:Nat):Lh S.Y:=⟨3,⟨[.l (.arr 0 52),.V,.I,.I],[.row false .du]⟩,fun K v0 v1 v2 v3=>l3 k v0 v1 (K .ret (bZ [2] [.one (.l (.b false))] [])) (K (.exit 0) (bZ [2] [.one (.l (.any))] [])) k v2 v3⟩
theorem aq:Ct S f:=fun k=>c1 24 [ce (aT.aq k)] [(3,[3,7,8,9]),(100003,[2])] [h3 k] Tryz.func142 (all_cons ((h3 k).fit fun K r v0 v1 v2 v3 h=>fm h (fun a m=>m v0 v1 a.1 a.2) fun _ _ v2 v3=>some (v2,v3)) all_nil)
end aB
namespace bI
def S:=so 167 [9] [22,4] .own [.l .aS .str] [.l .own (.ints .i64),.B]
def h7 (k:Nat):Lh S.Y:=⟨7,⟨[.l (.s),.l (.own 0),.I],[.V]⟩,fun K v0 v1 v2=>l7 k v0 (fun p0=>K (.exit 0) (bZ [2,3,4] [.one (.l (.any)),.one (.l (.any)),.one (.l (.own 0))] [some (.row 0 0 (.ints .i64 p0))])) k v1 v2⟩
theorem aq:Ct S f:=fun k=>c1 44 [ce (aB.aq k),ce (dZ.aq k)] [(7,[0,4,5]),(100007,[2,3,4])] [h7 k] Tryz.func167 (all_cons ((h7 k).fit fun K r v0 v1 v2 h=>fm h (fun a m=>m v0 a.1 a.2) fun _ v1 v2=>some (v1,v2)) all_nil)
end bI
namespace cS
def S:=so 100 [9,57] [22,22,4] .own [.l .aS .str,.l .aS .strs] [.l .own (.ints .i64),.l .own (.ints .i64),.B]
def h5 (k:Nat):Lh S.Y:=⟨5,⟨[.l (.s),.l (.own 0),.l (.own 1),.l (.val false false .strs),.I,.I],[.V,.V]⟩,fun K v0 v1 v2 v3 v4 v5=>l5 k v0 v1 v2 (fun p0 p1=>K .ret (bZ [4,5,6,7,8] [.one (.l (.nil)),.one (.l (.nil)),.one (.l (.b false)),.one (.l (.own 0)),.one (.l (.own 1))] [some (.row 0 0 (.ints .i64 p0)),some (.row 0 0 (.ints .i64 p1))])) (fun p0 p1=>K (.exit 0) (bZ [4,5,6,7,8] [.one (.l (.any)),.one (.l (.any)),.one (.l (.any)),.one (.l (.own 0)),.one (.l (.own 1))] [some (.row 0 0 (.ints .i64 p0)),some (.row 0 0 (.ints .i64 p1))])) k v3 v4 v5⟩
theorem aq:Ct S f:=fun k=>c1 71 [ce (iO.aq k),ce (gJ.aq k),ce (dZ.aq k),ce (bI.aq k)] [(5,[0,7,8,22,23,24]),(100005,[4,5,6,7,8])] [h5 k] Tryz.func100 (all_cons ((h5 k).fit fun K r v0 v1 v2 v3 v4 v5 h=>fm h (fun a m=>m v0 v1 v2 a.1 a.2.1 (t2 a)) fun _ _ _ v3 v4 v5=>some (v3,v4,v5)) all_nil)
end cS
namespace gj
def S:=so 158 [22] [4] .own [.V] [.B]
theorem aq:Ct S f:=fun k=>c0 10 [ce (bq.aq k)] Tryz.func158
end gj
namespace cd
def S:=so 85 [31] [4] .own [.agg .aS ov] [.B]
theorem aq:Ct S f:=fun k=>c0 39 [ce (an.aq k),ce (gj.aq k)] Tryz.func85
end cd
namespace ea
def S:=so 143 [22,3,3] [25,22,4] .own [.V,.I,.I] [.l .own .rows,.l .own (.ints .i64),.B]
def h5 (k:Nat):Lh S.Y:=⟨5,⟨[.V,.I,.I,.l (.own 0),.V,.I,.I],[.W]⟩,fun K v0 v1 v2 v3 v4 v5 v6=>l5 k v1 v3 v4 (fun p0=>K (.exit 0) (bZ [0,1,2,6,7,8,9] [.one (.l (.val false (.ints .i64 v0))),.one (.l (.i .i64 v1)),.one (.l (.i .i64 v2)),.one (.l (.any)),.one (.l (.any)),.one (.l (.any)),.one (.l (.own 0))] [some (.row 0 0 (.rows true p0))])) k v5 v6⟩
theorem aq:Ct S f:=fun k=>c1 70 [ce (aJ.aq k),ce (aB.aq k),ce (an.aq k)] [(5,[0,1,2,9,41,42,43]),(100005,[0,1,2,6,7,8,9])] [h5 k] Tryz.func143 (all_cons ((h5 k).fit fun K r v0 v1 v2 v3 v4 v5 v6 h=>fm h (fun a m=>m v0 v1 v2 v3 v4 a.1 a.2) fun _ _ _ _ _ v5 v6=>some (v5,v6)) all_nil)
end ea
namespace ia
def S:=so 75 [31,22] [33,4] .own [.agg .aS ov,.V] [.agg .own jV,.B]
theorem aq:Ct S f:=fun k=>c0 44 [ce (cd.aq k),ce (bY.aq k),ce (aJ.aq k),ce (aB.aq k),ce (ea.aq k)] Tryz.func75
end ia
namespace eK
def S:=so 153 [22] [3] .own [.V] [.O]
def h3 (k:Nat):Lh S.Y:=⟨3,⟨[.I,.V,.I,.I],[]⟩,fun K v0 v1 v2 v3=>l3 k v1 v2 (fun p0=>K (.exit 0) (bZ [2,3] [.one (.l (.any)),.one (.l (.i .i64 p0))] [])) k v0 v3⟩
theorem aq:Ct S f:=fun k=>c1 17 [] [(3,[3,6,7,8]),(100003,[2,3])] [h3 k] Tryz.func153 (all_cons ((h3 k).fit fun K r v0 v1 v2 v3 h=>fm h (fun a m=>m a.1 v1 v2 a.2) fun v0 _ _ v3=>some (v0,v3)) all_nil)
end eK
namespace fe
def S:=so 241 [22,3,3] [4] .own [.V,.I,.I] [.B]
def h2 (k:Nat):Lh S.Y:=⟨2,⟨[.I,.I,.V,.I,.I],[]⟩,fun K v0 v1 v2 v3 v4=>l2 k v0 v1 v2 v3 (K .ret (bZ [6] [.one (.l (.b false))] [])) (K (.exit 0) (bZ [6] [.one (.l (.any))] [])) k v4⟩
theorem aq:Ct S f:=fun k=>c1 21 [ce (an.aq k)] [(2,[1,2,9,10,11]),(100002,[6])] [h2 k] Tryz.func241 (all_cons ((h2 k).fit fun K r v0 v1 v2 v3 v4 h=>fm h (fun a m=>m v0 v1 v2 v3 a) fun _ _ _ _ v4=>some v4) all_nil)
end fe
namespace kq
def S:=so 159 [3,22] [4] .own [.I,.V] [.B]
theorem aq:Ct S f:=fun k=>c0 22 [ce (an.aq k),ce (eK.aq k),ce (fe.aq k)] Tryz.func159
end kq
namespace cg
def S:=so 86 [3,25] [4] .own [.I,.l .aS .rows] [.B]
def h2 (k:Nat):Lh S.Y:=⟨2,⟨[.I,.W,.W,.I,.I],[]⟩,fun K v0 v1 v2 v3 v4=>l2 k v0 v2 v3 (K .ret (bZ [0,1,4] [.one (.l (.i .i64 v0)),.one (.l (.val false (.rows false v1))),.one (.l (.b false))] [])) (K (.exit 0) (bZ [0,1,4] [.one (.l (.i .i64 v0)),.one (.l (.val false (.rows false v1))),.one (.l (.any))] [])) k v4⟩
theorem aq:Ct S f:=fun k=>c1 25 [ce (an.aq k),ce (kq.aq k)] [(2,[0,1,7,8,9]),(100002,[0,1,4])] [h2 k] Tryz.func86 (all_cons ((h2 k).fit fun K r v0 v1 v2 v3 v4 h=>fm h (fun a m=>m v0 v1 v2 v3 a) fun _ _ _ _ v4=>some v4) all_nil)
end cg
namespace aI
def S:=so 94 [22,22] [4] .own [.V,.V] [.B]
def h4 (k:Nat):Lh S.Y:=⟨4,⟨[.V,.V,.I,.I],[]⟩,fun K v0 v1 v2 v3=>l4 k v0 v1 v2 (K .ret (bZ [4] [.one (.l (.b false))] [])) (K (.exit 0) (bZ [4] [.one (.l (.any))] [])) k v3⟩
theorem aq:Ct S f:=fun k=>c1 26 [] [(4,[0,1,12,13]),(100004,[4])] [h4 k] Tryz.func94 (all_cons ((h4 k).fit fun K r v0 v1 v2 v3 h=>fm h (fun a m=>m v0 v1 v2 a) fun _ _ _ v3=>some v3) all_nil)
end aI
namespace dW
def S:=so 93 [31,31] [4] .own [.agg .aS ov,.agg .aS ov] [.B]
theorem aq:Ct S f:=fun k=>c0 59 [ce (aI.aq k)] Tryz.func93
end dW
namespace bQ
def S:=so 95 [25,25] [4] .own [.l .aS .rows,.l .aS .rows] [.B]
def h4 (k:Nat):Lh S.Y:=⟨4,⟨[.W,.W,.I,.I],[]⟩,fun K v0 v1 v2 v3=>l4 k v0 v1 v2 (K .ret (bZ [4] [.one (.l (.b false))] [])) (K (.exit 0) (bZ [4] [.one (.l (.any))] [])) k v3⟩
theorem aq:Ct S f:=fun k=>c1 27 [ce (aI.aq k)] [(4,[0,1,12,13]),(100004,[4])] [h4 k] Tryz.func95 (all_cons ((h4 k).fit fun K r v0 v1 v2 v3 h=>fm h (fun a m=>m v0 v1 v2 a) fun _ _ _ v3=>some v3) all_nil)
end bQ
namespace dD
def S:=so 87 [33,33] [4] .own [.agg .aS jV,.agg .aS jV] [.B]
theorem aq:Ct S f:=fun k=>c0 52 [ce (dW.aq k),ce (aI.aq k),ce (bQ.aq k)] Tryz.func87
end dD
namespace bK
def S:=so 305 [25] [4] .own [.l .aS .rows] [.B]
def h3 (k:Nat):Lh S.Y:=⟨3,⟨[.l (.own 0),.W,.I,.I],[.V]⟩,fun K v0 v1 v2 v3=>l3 k v0 v1 (fun p0=>K (.exit 0) (bZ [2,3] [.one (.l (.any)),.one (.l (.own 0))] [some (.row 0 0 (.ints .i64 p0))])) k v2 v3⟩
theorem aq:Ct S f:=fun k=>c1 19 [ce (aB.aq k)] [(3,[3,7,8,9]),(100003,[2,3])] [h3 k] Tryz.func305 (all_cons ((h3 k).fit fun K r v0 v1 v2 v3 h=>fm h (fun a m=>m v0 v1 a.1 a.2) fun _ _ v2 v3=>some (v2,v3)) all_nil)
end bK
namespace bg
def S:=so 306 [25] [3] .own [.l .aS .rows] [.O]
def h3 (k:Nat):Lh S.Y:=⟨3,⟨[.I,.W,.I,.I],[]⟩,fun K v0 v1 v2 v3=>l3 k v1 v2 (fun p0=>K (.exit 0) (bZ [2,3] [.one (.l (.any)),.one (.l (.i .i64 p0))] [])) k v0 v3⟩
theorem aq:Ct S f:=fun k=>c1 18 [] [(3,[3,6,7,8]),(100003,[2,3])] [h3 k] Tryz.func306 (all_cons ((h3 k).fit fun K r v0 v1 v2 v3 h=>fm h (fun a m=>m a.1 v1 v2 a.2) fun v0 _ _ v3=>some (v0,v3)) all_nil)
end bg
namespace mK
def S:=so 238 [25] [4] .own [.l .aS .rows] [.B]
theorem aq:Ct S f:=fun k=>c0 10 [ce (bK.aq k),ce (bg.aq k)] Tryz.func238
end mK
namespace cQ
def S:=so 150 [33] [4] .own [.agg .aS jV] [.B]
theorem aq:Ct S f:=fun k=>c0 57 [ce (cd.aq k),ce (bm.aq k),ce (an.aq k),ce (mK.aq k)] Tryz.func150
end cQ
namespace cZ
def S:=so 151 [33] [3] .own [.agg .aS jV] [.O]
def h4 (k:Nat):Lh S.Y:=⟨4,⟨[.W,.I,.I],[]⟩,fun K v0 v1 v2=>l4 k v0 v1 (fun p0=>K .ret (bZ [2] [.one (.l (.i .i64 p0))] [])) (K (.exit 0) (bZ [2] [.one (.l (.any))] [])) k v2⟩
theorem aq:Ct S f:=fun k=>c1 21 [ce (cQ.aq k)] [(4,[9,10,11]),(100004,[2])] [h4 k] Tryz.func151 (all_cons ((h4 k).fit fun K r v0 v1 v2 h=>fm h (fun a m=>m v0 v1 a) fun _ _ v2=>some v2) all_nil)
end cZ
namespace fJ
def S:=so 82 [33] [4] .own [.agg .aS jV] [.B]
theorem aq:Ct S f:=fun k=>c0 26 [ce (cQ.aq k),ce (cZ.aq k)] Tryz.func82
end fJ
namespace ca
def S:=so 236 [33] [33,4] .own [.agg .aS jV] [.agg .own jV,.B]
def h6 (k:Nat):Lh S.Y:=⟨6,⟨[.l (.ptr 0 0),.l (.ptr 1 0),.l (.ptr 2 0),.I,.I,.I],[.box [.I,.I,.b,.b,.V,.V,.I,.I,.W,.V,.V,.I,.I,.I],.box [.I,.I,.bc false,.bc false,.nil,.nil,.I,.I,.nil,.nil,.nil,.I,.I,.I],.box [.I,.I,.b,.b,.own 3,.own 4,.I,.I,.own 5,.own 6,.own 7,.I,.I,.I],.V,.V,.W,.V,.V]⟩,fun K v0 v1 v2 v3 v4 v5 v6 v7 v8 v9 v10 v11 v12 fG fH eZ fq gw jF v21 iR ij v24 j4 j5 lg v28 n4 v30 v31 Dv yh yi Dw oM v37 jh qG=>l6 k v1 fH (fun p0 p1 p2 p3=>K (.exit 0) (bZ [1,2,3,4,5] [.one (.l (.fP 0 0)),.one (.l (.fP 1 0)),.one (.l (.any)),.one (.l (.fP 2 0)),.one (.l (.i .i64 p0))] [some (.box 0 [.i .i64 v3,.i .i64 v4,.b v5,.b v6,.val false (.ints .i64 v7),.val false (.ints .i64 v8),.i .i64 v9,.i .i64 v10,.val false (.rows false v11),.val false (.ints .i64 v12),.val false (.ints .i64 fG),.i .i64 fH,.i .i64 eZ,.i .i64 fq]),some (.box 0 [.i .i64 gw,.i .i64 jF,.b false,.b false,.nil,.nil,.i .i64 v21,.i .i64 iR,.nil,.nil,.nil,.i .i64 ij,.i .i64 v24,.i .i64 j4]),some (.box 0 [.i .i64 j5,.i .i64 lg,.b v28,.b n4,.own 3,.own 4,.i .i64 v30,.i .i64 v31,.own 5,.own 6,.own 7,.i .i64 Dv,.i .i64 yh,.i .i64 yi]),some (.row 0 0 (.ints .i64 Dw)),some (.row 0 0 (.ints .i64 oM)),some (.row 0 0 (.rows true p1)),some (.row 0 0 (.ints .i64 p2)),some (.row 0 0 (.ints .i64 p3))])) k v0 v2 v37 jh qG⟩
theorem aq:Ct S f:=fun k=>c1 91 [ce (fJ.aq k),ce (aJ.aq k),ce (cN.aq k),ce (cQ.aq k)] [(6,[1,2,4,5,19,20]),(100006,[1,2,3,4,5])] [h6 k] Tryz.func236 (all_cons ((h6 k).fit fun K r v0 v1 v2 v3 v4 v5 v6 v7 v8 v9 v10 v11 v12 fG fH eZ fq gw jF v21 iR ij v24 j4 j5 lg v28 n4 v30 v31 Dv yh yi Dw oM v37 jh qG h=>fm h (fun a m=>m a.1 v1 a.2.1 v3 v4 v5 v6 v7 v8 v9 v10 v11 v12 fG fH eZ fq gw jF v21 iR ij v24 j4 j5 lg v28 n4 v30 v31 Dv yh yi Dw oM (t2 a).1 (t3 a).1 (t4 a)) fun v0 _ v2 _ _ _ _ _ _ _ _ _ _ _ _ _ _ _ _ _ _ _ _ _ _ _ _ _ _ _ _ _ _ _ _ v37 jh qG=>some (v0,v2,v37,jh,qG)) all_nil)
end ca
namespace aX
def S:=so 252 [22] [22] .own [.V] [.l .own (.ints .i64)]
def h6 (k:Nat):Lh S.Y:=⟨6,⟨[.l (.own 0),.I,.I,.V,.I,.I],[.V]⟩,fun K v0 v1 v2 v3 v4 v5=>l6 k v0 v5 (fun p0=>K (.exit 2) (bZ [2,3,5,6,8,9,10] [.one (.l (.any)),.one (.l (.own 0)),.one (.l (.i .i64 v0)),.one (.l (.i .i64 p0)),.one (.l (.val false (.ints .i64 v2))),.one (.l (.i .i64 v3)),.one (.l (.i .i64 v4))] [some (.row 0 0 (.ints .i64 v5))])) k v1⟩
def h3 (k:Nat):Lh S.Y:=⟨3,⟨[.l (.own 0),.V,.I,.I],[.V]⟩,fun K v0 v1 v2 v3=>l3 k v0 v1 (fun p0=>K (.exit 0) (bZ [2,3] [.one (.l (.any)),.one (.l (.own 0))] [some (.row 0 0 (.ints .i64 p0))])) k v2 v3⟩
theorem aq:Ct S f:=fun k=>c1 46 [] [(6,[3,5,6,8,9,10]),(100006,[2,3,5,6,8,9,10]),(3,[3,8,9,10]),(100003,[2,3])] [h6 k,h3 k] Tryz.func252 (all_cons ((h3 k).fit fun K r v0 v1 v2 v3 h=>fm h (fun a m=>m v0 v1 a.1 a.2) fun _ _ v2 v3=>some (v2,v3)) (all_cons ((h6 k).fit fun K r v0 v1 v2 v3 v4 v5 h=>fm h (fun a m=>m v0 a v2 v3 v4 v5) fun _ v1 _ _ _ _=>some v1) all_nil))
end aX
namespace aZ
def S:=so 249 [3] [3] .own [.I] [.O]
theorem aq:Ct S f:=fun k=>c0 8 [ce (aT.aq k)] Tryz.func249
end aZ
namespace bN
def S:=so 313 [3] [3] .own [.I] [.O]
theorem aq:Ct S f:=fun k=>c0 8 [ce (aT.aq k)] Tryz.func313
end bN
namespace mj
def S:=so 346 [3] [4] .own [.I] [.B]
theorem aq:Ct S f:=fun k=>c0 11 [ce (aZ.aq k)] Tryz.func346
end mj
namespace my
def S:=so 318 [3,3] [4] .own [.I,.I] [.B]
theorem aq:Ct S f:=fun k=>c0 31 [ce (aZ.aq k),ce (bN.aq k),ce (mj.aq k)] Tryz.func318
end my
namespace bF
def S:=so 267 [22,3] [4] .own [.V,.I] [.B]
def h5 (k:Nat):Lh S.Y:=⟨5,⟨[.I,.l (.own 0),.V,.I,.I],[.row false .du]⟩,fun K v0 v1 v2 v3 v4=>l5 k v0 v1 v2 (fun p0=>K (.exit 0) (bZ [4,5] [.one (.l (.any)),.one (.l (.own 0))] [some (.row 0 0 (.du p0))])) k v3 v4⟩
theorem aq:Ct S f:=fun k=>c1 89 [ce (aT.aq k),ce (bq.aq k),ce (my.aq k)] [(5,[1,5,18,19,20]),(100005,[4,5])] [h5 k] Tryz.func267 (all_cons ((h5 k).fit fun K r v0 v1 v2 v3 v4 h=>fm h (fun a m=>m v0 v1 v2 a.1 a.2) fun _ _ _ v3 v4=>some (v3,v4)) all_nil)
end bF
namespace kQ
def S:=so 255 [31,3,3] [4] .own [.agg .aS ov,.I,.I] [.B]
theorem aq:Ct S f:=fun k=>c0 46 [ce (aT.aq k),ce (cd.aq k),ce (aZ.aq k),ce (bF.aq k),ce (bN.aq k)] Tryz.func255
end kQ
namespace bL
def S:=so 179 [33] [22] .own [.agg .aS jV] [.l .own (.ints .i64)]
def h5 (k:Nat):Lh S.Y:=⟨5,⟨[.l (.ptr 0 0),.l (.own 1),.l (.own 2),.I,.I],[.box [.I,.I,.b,.b,.V,.V,.I,.I,.W,.V,.V,.I,.I,.I],.V,.V]⟩,fun K v0 v1 v2 v3 v4 v5 v6 v7 v8 v9 _ _ v12 _ _ _ fq gw=>l5 k v0 v2 v3 v4 v5 v6 v7 v8 v9 v12 gw (fun p0=>K (.exit 0) (bZ [2,3] [.one (.l (.any)),.one (.l (.own 0))] [some (.row 0 0 (.ints .i64 p0))])) k v1 fq⟩
theorem aq:Ct S f:=fun k=>c1 44 [ce (fJ.aq k),ce (cQ.aq k),ce (aX.aq k),ce (kQ.aq k)] [(5,[1,3,20,21,22]),(100005,[2,3])] [h5 k] Tryz.func179 (all_cons ((h5 k).fit fun K r v0 v1 v2 v3 v4 v5 v6 v7 v8 v9 v10 v11 v12 fG fH eZ fq gw h=>fm h (fun a m=>m v0 a.1 v2 v3 v4 v5 v6 v7 v8 v9 v10 v11 v12 fG fH eZ a.2 gw) fun _ v1 _ _ _ _ _ _ _ _ _ _ _ _ _ _ fq _=>some (v1,fq)) all_nil)
end bL
namespace ey
def S:=so 314 [22,3] [3] .own [.V,.I] [.O]
def h2 (k:Nat):Lh S.Y:=⟨2,⟨[.I,.V,.I,.I],[]⟩,fun K v0 v1 v2 v3=>l2 k v0 v1 v2 (fun p0=>K .ret (bZ [4] [.one (.l (.i .i64 p0))] [])) (K (.exit 0) (bZ [4] [.one (.l (.any))] [])) k v3⟩
theorem aq:Ct S f:=fun k=>c1 19 [] [(2,[1,7,8,9]),(100002,[4])] [h2 k] Tryz.func314 (all_cons ((h2 k).fit fun K r v0 v1 v2 v3 h=>fm h (fun a m=>m v0 v1 v2 a) fun _ _ _ v3=>some v3) all_nil)
end ey
namespace fK
def S:=so 263 [22,3] [4] .own [.V,.I] [.B]
theorem aq:Ct S f:=fun k=>c0 9 [ce (ey.aq k)] Tryz.func263
end fK
namespace db
def S:=so 264 [22,3] [22] .own [.V,.I] [.l .own (.ints .i64)]
def h3 (k:Nat):Lh S.Y:=⟨3,⟨[.I,.l (.own 0),.V,.I,.I],[.V]⟩,fun K v0 v1 v2 v3 v4=>l3 k v0 v1 v2 (fun p0=>K (.exit 0) (bZ [4,5] [.one (.l (.any)),.one (.l (.own 0))] [some (.row 0 0 (.ints .i64 p0))])) k v3 v4⟩
theorem aq:Ct S f:=fun k=>c1 24 [] [(3,[1,5,9,10,11]),(100003,[4,5])] [h3 k] Tryz.func264 (all_cons ((h3 k).fit fun K r v0 v1 v2 v3 v4 h=>fm h (fun a m=>m v0 v1 v2 a.1 a.2) fun _ _ _ v3 v4=>some (v3,v4)) all_nil)
end db
namespace jN
def S:=so 304 [31,3] [4] .own [.agg .aS ov,.I] [.B]
theorem aq:Ct S f:=fun k=>c0 13 [ce (cd.aq k),ce (bF.aq k)] Tryz.func304
end jN
namespace kR
def S:=so 237 [33,3] [33,4] .own [.agg .aS jV,.I] [.agg .own jV,.B]
theorem aq:Ct S f:=fun k=>c0 54 [ce (cN.aq k),ce (bL.aq k),ce (fK.aq k),ce (db.aq k),ce (jN.aq k)] Tryz.func237
end kR
namespace fC
def S:=so 149 [33,3] [33,4] .own [.agg .aS jV,.I] [.agg .own jV,.B]
theorem aq:Ct S f:=fun k=>c0 17 [ce (ca.aq k),ce (kR.aq k)] Tryz.func149
end fC
namespace cT
def S:=so 88 [33,22] [33,3] .own [.agg .aS jV,.V] [.agg .own jV,.O]
def h3 (k:Nat):Lh S.Y:=⟨3,⟨[.V,.l (.ptr 0 0),.l (.ptr 1 0),.V,.I,.I],[.box [.I,.I,.bc false,.bc false,.nil,.nil,.I,.I,.nil,.nil,.nil,.I,.I,.I],.box [.I,.I,.b,.b,.own 2,.own 3,.I,.I,.own 4,.own 5,.own 6,.I,.I,.I],.V,.V,.W,.V,.V]⟩,fun K v0 v1 v2 v3 v4 v5 v8 v9 v10 v11 v12 fG fH eZ fq gw jF iS v20 v21 iR ij v24 j4 j5=>l3 k v1 v2 (fun p0 p1 p2 p3 p4 p5 p6 p7 p8 p9 Jq Jr Js Jt OB=>K .ret (bZ [1,4,5,6] [.one (.l (.val false (.ints .i64 v0))),.one (.l (.fP 0 0)),.one (.l (.i .i64 p0)),.one (.l (.fP 6 0))] [some (.box 0 [.i .i64 p1,.i .i64 p2,.b p3,.b p4,.own 1,.own 2,.i .i64 p5,.i .i64 p6,.own 3,.own 4,.own 5,.i .i64 p7,.i .i64 p8,.i .i64 p9]),some (.row 0 0 (.ints .i64 Jq)),some (.row 0 0 (.ints .i64 Jr)),some (.row 0 0 (.rows true Js)),some (.row 0 0 (.ints .i64 Jt)),some (.row 0 0 (.ints .i64 OB)),some (.box 0 [.i .i64 p1,.i .i64 p2,.b p3,.b p4,.own 1,.own 2,.i .i64 p5,.i .i64 p6,.own 3,.own 4,.own 5,.i .i64 p7,.i .i64 p8,.i .i64 p9])])) (fun p0 p1 p2 p3 p4 p5 p6 p7 p8 p9 Jq Jr Js Jt=>K (.exit 0) (bZ [1,4,5,6] [.one (.l (.val false (.ints .i64 v0))),.one (.l (.fP 0 0)),.one (.l (.any)),.one (.l (.fP 1 0))] [some (.box 0 [.i .i64 v4,.i .i64 v5,.b false,.b false,.nil,.nil,.i .i64 v8,.i .i64 v9,.nil,.nil,.nil,.i .i64 v10,.i .i64 v11,.i .i64 v12]),some (.box 0 [.i .i64 p0,.i .i64 p1,.b p2,.b p3,.own 2,.own 3,.i .i64 p4,.i .i64 p5,.own 4,.own 5,.own 6,.i .i64 p6,.i .i64 p7,.i .i64 p8]),some (.row 0 0 (.ints .i64 p9)),some (.row 0 0 (.ints .i64 Jq)),some (.row 0 0 (.rows true Jr)),some (.row 0 0 (.ints .i64 Js)),some (.row 0 0 (.ints .i64 Jt))])) k v3 fG fH eZ fq gw jF iS v20 v21 iR ij v24 j4 j5⟩
theorem aq:Ct S f:=fun k=>c1 35 [ce (cN.aq k),ce (fC.aq k)] [(3,[1,4,6,13,14,15]),(100003,[1,4,5,6])] [h3 k] Tryz.func88 (all_cons ((h3 k).fit fun K r v0 v1 v2 v3 v4 v5 v8 v9 v10 v11 v12 fG fH eZ fq gw jF iS v20 v21 iR ij v24 j4 j5 h=>fm h (fun a m=>m v0 v1 v2 a.1 v4 v5 v8 v9 v10 v11 v12 a.2.1 (t2 a).1 (t3 a).1 (t4 a).1 (t5 a).1 (t6 a).1 (t7 a).1 (t8 a).1 (t9 a).1 (t9 a.2).1 (t9 (t2 a)).1 (t9 (t3 a)).1 (t9 (t4 a)).1 (t9 (t5 a))) fun _ _ _ v3 _ _ _ _ _ _ _ fG fH eZ fq gw jF iS v20 v21 iR ij v24 j4 j5=>some (v3,fG,fH,eZ,fq,gw,jF,iS,v20,v21,iR,ij,v24,j4,j5)) all_nil)
end cT
namespace gm
def S:=so 27 [35] [4] .own [.agg .aS gF] [.B]
theorem aq:Ct S f:=fun k=>c0 85 [ce (ia.aq k),ce (cd.aq k),ce (cg.aq k),ce (dD.aq k),ce (cT.aq k)] Tryz.func27
end gm
namespace aN
def S:Sp:=⟨52,⟨[35,35,4],[35,4],[.mS,.DD,.mS],.own⟩,[.agg .aS gF,.agg .own gF,.l .aS .bool],[.agg .own gF,.B]⟩
theorem aq:Ct S f:=fun k=>c0 23 [ce (gm.aq k),ce (ah.aq k)] Tryz.func52
end aN
namespace gG
def S:=so 80 [35,3] [35,4] .own [.agg .aS gF,.I] [.agg .own gF,.B]
theorem aq:Ct S f:=fun k=>c0 36 [ce (ah.aq k),ce (aN.aq k),ce (fC.aq k)] Tryz.func80
end gG
namespace fD
def S:=so 21 [35,3] [35,4] .own [.agg .aS gF,.I] [.agg .own gF,.B]
theorem aq:Ct S f:=fun k=>c0 16 [ce (ah.aq k),ce (aT.aq k),ce (gG.aq k)] Tryz.func21
end fD
namespace fE
def S:=so 23 [35] [35,4] .own [.agg .aS gF] [.agg .own gF,.B]
theorem aq:Ct S f:=fun k=>c0 8 [ce (gG.aq k)] Tryz.func23
end fE
namespace kr
def S:=so 307 [3] [3] .own [.I] [.O]
theorem aq:Ct S f:=fun k=>c0 17 [ce (bN.aq k)] Tryz.func307
end kr
namespace dr
def S:=so 239 [22] [3] .own [.V] [.O]
def h3 (k:Nat):Lh S.Y:=⟨3,⟨[.I,.V,.I,.I],[]⟩,fun K v0 v1 v2 v3=>l3 k v1 v2 (fun p0=>K (.exit 0) (bZ [2,3] [.one (.l (.any)),.one (.l (.i .i64 p0))] [])) k v0 v3⟩
theorem aq:Ct S f:=fun k=>c1 18 [ce (kr.aq k)] [(3,[3,6,7,8]),(100003,[2,3])] [h3 k] Tryz.func239 (all_cons ((h3 k).fit fun K r v0 v1 v2 v3 h=>fm h (fun a m=>m a.1 v1 v2 a.2) fun v0 _ _ v3=>some (v0,v3)) all_nil)
end dr
namespace ck
def S:=so 152 [33] [22] .own [.agg .aS jV] [.l .own (.ints .i64)]
def h3 (k:Nat):Lh S.Y:=⟨3,⟨[.l (.own 0),.W,.I,.I],[.V]⟩,fun K v0 v1 v2 v3=>l3 k v0 v1 (fun p0=>K (.exit 0) (bZ [2,3] [.one (.l (.any)),.one (.l (.own 0))] [some (.row 0 0 (.ints .i64 p0))])) k v2 v3⟩
theorem aq:Ct S f:=fun k=>c1 21 [ce (dr.aq k)] [(3,[3,8,9,10]),(100003,[2,3])] [h3 k] Tryz.func152 (all_cons ((h3 k).fit fun K r v0 v1 v2 v3 h=>fm h (fun a m=>m v0 v1 a.1 a.2) fun _ _ v2 v3=>some (v2,v3)) all_nil)
end ck
namespace df
def S:=so 81 [33] [22] .own [.agg .aS jV] [.l .own (.ints .i64)]
def h8 (k:Nat):Lh S.Y:=⟨8,⟨[.I,.l (.own 0),.l (.own 1),.l (.own 0),.I,.I],[.V,.V]⟩,fun K v0 v1 v2 v3 v4=>l8 k v1 v3 (fun p0=>K (.exit 0) (bZ [2,3,4,5] [.one (.l (.any)),.one (.l (.i .i64 v0)),.one (.l (.own 0)),.one (.l (.own 1))] [some (.row 0 0 (.ints .i64 v3)),some (.row 0 0 (.ints .i64 p0))])) k v2 v4⟩
theorem aq:Ct S f:=fun k=>c1 40 [ce (cQ.aq k),ce (cZ.aq k),ce (ck.aq k),ce (eK.aq k)] [(8,[3,4,5,21,22,23]),(100008,[2,3,4,5])] [h8 k] Tryz.func81 (all_cons ((h8 k).fit fun K r v0 v1 v2 v3 v4 h=>fm h (fun a m=>m v0 v1 a.1 v3 a.2) fun _ _ v2 _ v4=>some (v2,v4)) all_nil)
end df
namespace fF
def S:=so 25 [35] [35,4] .own [.agg .aS gF] [.agg .own gF,.B]
theorem aq:Ct S f:=fun k=>c0 36 [ce (ah.aq k),ce (aN.aq k),ce (df.aq k),ce (fJ.aq k)] Tryz.func25
end fF
namespace lH
def S:=so 168 [31] [35,4] .own [.agg .aS ov] [.agg .own gF,.B]
theorem aq:Ct S f:=fun k=>c0 11 [ce (cd.aq k),ce (bY.aq k)] Tryz.func168
end lH
namespace kS
def S:=so 169 [] [31] .own [] [.agg .own ov]
theorem aq:Ct S f:=fun k=>c0 4 [] Tryz.func169
end kS
namespace iV
def S:=so 228 [3,3] [3] .own [.I,.I] [.O]
theorem aq:Ct S f:=fun k=>c0 15 [ce (an.aq k)] Tryz.func228
end iV
namespace fb
def S:=so 229 [22] [3] .own [.V] [.O]
def h3 (k:Nat):Lh S.Y:=⟨3,⟨[.I,.V,.I,.I],[]⟩,fun K v0 v1 v2 v3=>l3 k v1 v2 (fun p0=>K (.exit 0) (bZ [2,3] [.one (.l (.any)),.one (.l (.i .i64 p0))] [])) k v0 v3⟩
theorem aq:Ct S f:=fun k=>c1 21 [ce (iV.aq k)] [(3,[3,6,7,8]),(100003,[2,3])] [h3 k] Tryz.func229 (all_cons ((h3 k).fit fun K r v0 v1 v2 v3 h=>fm h (fun a m=>m a.1 v1 v2 a.2) fun v0 _ _ v3=>some (v0,v3)) all_nil)
end fb
namespace gH
def S:=so 247 [3,3,3] [3] .own [.I,.I,.I] [.O]
theorem aq:Ct S f:=fun k=>c0 12 [ce (fb.aq k)] Tryz.func247
end gH
namespace cm
def S:=so 170 [31,22,3] [160] .own [.agg .aS ov,.V,.I] [.l .own (.dw [false,false,true,true])]
def h5 (k:Nat):Lh S.Y:=⟨5,⟨[.V,.I,.l (.own 0),.l (.own 1),.V,.I,.I],[.row true (.dw [false,false,true,true]),.V]⟩,fun K v0 v1 v2 v3 v4 v5 v6=>l5 k v1 v2 v3 (fun p0 p1=>K (.exit 0) (bZ [1,6,7,8] [.one (.l (.val false (.ints .i64 v0))),.one (.l (.any)),.one (.l (.own 0)),.one (.l (.own 1))] [some (.row 0 0 (.dw [false,false,true,true] true p0)),some (.row 0 0 (.ints .i64 p1))])) k v4 v5 v6⟩
theorem aq:Ct S f:=fun k=>c1 50 [ce (cd.aq k),ce (aJ.aq k),ce (gH.aq k)] [(5,[1,2,7,8,23,24,25]),(100005,[1,6,7,8])] [h5 k] Tryz.func170 (all_cons ((h5 k).fit fun K r v0 v1 v2 v3 v4 v5 v6 h=>fm h (fun a m=>m v0 v1 v2 v3 a.1 a.2.1 (t2 a)) fun _ _ _ _ v4 v5 v6=>some (v4,v5,v6)) all_nil)
end cm
namespace jO
def S:=so 17 [35,3] [35,4] .own [.agg .aS gF,.I] [.agg .own gF,.B]
theorem aq:Ct S f:=fun k=>c0 32 [ce (ah.aq k),ce (aN.aq k)] Tryz.func17
end jO
namespace jP
def S:=so 227 [3,3,3,3] [4] .own [.I,.I,.I,.I] [.B]
theorem aq:Ct S f:=fun k=>c0 23 [ce (an.aq k),ce (gH.aq k)] Tryz.func227
end jP
namespace cF
def S:=so 138 [22,22,22] [4] .own [.V,.V,.V] [.B]
def h5 (k:Nat):Lh S.Y:=⟨5,⟨[.V,.V,.V,.I,.I],[]⟩,fun K v0 v1 v2 v3 v4=>l5 k v0 v1 v2 v3 (K .ret (bZ [6] [.one (.l (.b false))] [])) (K (.exit 0) (bZ [6] [.one (.l (.any))] [])) k v4⟩
theorem aq:Ct S f:=fun k=>c1 47 [ce (an.aq k),ce (jP.aq k)] [(5,[0,1,2,27,28]),(100005,[6])] [h5 k] Tryz.func138 (all_cons ((h5 k).fit fun K r v0 v1 v2 v3 v4 h=>fm h (fun a m=>m v0 v1 v2 v3 a) fun _ _ _ _ v4=>some v4) all_nil)
end cF
namespace cv
def S:=so 139 [22,3] [22] .own [.V,.I] [.l .own (.ints .i64)]
def h3 (k:Nat):Lh S.Y:=⟨3,⟨[.I,.l (.own 0),.I],[.V]⟩,fun K v0 v1 v2=>l3 k v0 (fun p0=>K (.exit 0) (bZ [4,5] [.one (.l (.any)),.one (.l (.own 0))] [some (.row 0 0 (.ints .i64 p0))])) k v1 v2⟩
theorem aq:Ct S f:=fun k=>c1 39 [ce (aJ.aq k),ce (iV.aq k),ce (fb.aq k)] [(3,[1,5,6]),(100003,[4,5])] [h3 k] Tryz.func139 (all_cons ((h3 k).fit fun K r v0 v1 v2 h=>fm h (fun a m=>m v0 a.1 a.2) fun _ v1 v2=>some (v1,v2)) all_nil)
end cv
namespace dP
def S:=so 230 [22] [22] .own [.V] [.l .own (.ints .i64)]
def h3 (k:Nat):Lh S.Y:=⟨3,⟨[.V,.l (.own 0),.I],[.V]⟩,fun K v0 v1 v2=>l3 k v0 (fun p0=>K (.exit 0) (bZ [2,3] [.one (.l (.any)),.one (.l (.own 0))] [some (.row 0 0 (.ints .i64 p0))])) k v1 v2⟩
theorem aq:Ct S f:=fun k=>c1 19 [ce (fK.aq k)] [(3,[0,3,6]),(100003,[2,3])] [h3 k] Tryz.func230 (all_cons ((h3 k).fit fun K r v0 v1 v2 h=>fm h (fun a m=>m v0 a.1 a.2) fun _ v1 v2=>some (v1,v2)) all_nil)
end dP
namespace jQ
def S:=so 140 [] [22] .own [] [.l .own (.ints .i64)]
theorem aq:Ct S f:=fun k=>c0 2 [ce (dP.aq k)] Tryz.func140
end jQ
namespace cG
def S:=so 141 [22] [3] .own [.V] [.O]
def h3 (k:Nat):Lh S.Y:=⟨3,⟨[.I,.V,.I,.I],[]⟩,fun K v0 v1 v2 v3=>l3 k v1 v2 (fun p0=>K (.exit 0) (bZ [2,3] [.one (.l (.any)),.one (.l (.i .i64 p0))] [])) k v0 v3⟩
theorem aq:Ct S f:=fun k=>c1 19 [ce (iV.aq k)] [(3,[3,6,7,8]),(100003,[2,3])] [h3 k] Tryz.func141 (all_cons ((h3 k).fit fun K r v0 v1 v2 v3 h=>fm h (fun a m=>m a.1 v1 v2 a.2) fun v0 _ _ v3=>some (v0,v3)) all_nil)
end cG
namespace iW
def S:=so 74 [22,22,22] [22,4] .own [.V,.V,.V] [.l .own (.ints .i64),.B]
theorem aq:Ct S f:=fun k=>c0 17 [ce (cF.aq k),ce (cv.aq k),ce (jQ.aq k),ce (cG.aq k)] Tryz.func74
end iW
namespace jR
def S:=so 76 [35] [4] .own [.agg .aS gF] [.B]
theorem aq:Ct S f:=fun k=>c0 15 [] Tryz.func76
end jR
namespace jS
def S:=so 19 [35,22,22] [35,4] .own [.agg .aS gF,.V,.V] [.agg .own gF,.B]
theorem aq:Ct S f:=fun k=>c0 50 [ce (ah.aq k),ce (aN.aq k),ce (iW.aq k),ce (ia.aq k),ce (jR.aq k)] Tryz.func19
end jS
namespace iD
def S:=so 171 [35,163] [35,4] .own [.agg .aS gF,.agg .aS Wd] [.agg .own gF,.B]
theorem aq:Ct S f:=fun k=>c0 48 [ce (jO.aq k),ce (jS.aq k),ce (fD.aq k),ce (fE.aq k),ce (fF.aq k),ce (ah.aq k)] Tryz.func171
end iD
namespace cn
def S:=so 248 [22] [22] .own [.V] [.l .own (.ints .i64)]
def h3 (k:Nat):Lh S.Y:=⟨3,⟨[.l (.own 0),.V,.I,.I],[.V]⟩,fun K v0 v1 v2 v3=>l3 k v0 v1 (fun p0=>K (.exit 0) (bZ [2,3] [.one (.l (.any)),.one (.l (.own 0))] [some (.row 0 0 (.ints .i64 p0))])) k v2 v3⟩
theorem aq:Ct S f:=fun k=>c1 24 [ce (aT.aq k),ce (aZ.aq k)] [(3,[3,7,8,9]),(100003,[2,3])] [h3 k] Tryz.func248 (all_cons ((h3 k).fit fun K r v0 v1 v2 v3 h=>fm h (fun a m=>m v0 v1 a.1 a.2) fun _ _ v2 v3=>some (v2,v3)) all_nil)
end cn
namespace dk
def S:=so 172 [33,3] [3] .own [.agg .aS jV,.I] [.O]
def Ji (k:Nat):Lh S.Y:=⟨12,⟨[.l (.own 0),.I,.l (.own 1),.I,.I],[.V,.V]⟩,fun K v0 v1 v2 v3 v4=>G0 k v1 v3 v4 (fun p0=>K (.exit 1) (bZ [4,7] [.one (.l (.any)),.one (.l (.i .i64 p0))] [])) k v0 v2⟩
theorem aq:Ct S f:=fun k=>c1 61 [ce (bL.aq k),ce (cn.aq k),ce (aZ.aq k)] [(12,[6,7,41,42,43]),(100012,[4,7])] [Ji k] Tryz.func172 (all_cons ((Ji k).fit fun K r v0 v1 v2 v3 v4 h=>fm h (fun a m=>m a.1 v1 a.2 v3 v4) fun v0 _ v2 _ _=>some (v0,v2)) all_nil)
end dk
namespace aP
def S:=so 101 [35,9,22] [35,4] .aS [.agg .aS gF,.l .aS .str,.V] [.agg .aS gF,.l .aS .bool]
def h7 (k:Nat):Lh S.YM:=⟨7,⟨[.l (.ptr 0 0),.l (.ptr 1 0),.l (.ptr 2 0),.l (.own 14),.I,.I],[.box [.I,.I,.b,.b,.V,.V,.I,.I,.V,.b,.V,.I,.I,.b,.b,.V,.V,.I,.I,.W,.V,.V,.I,.I,.I,.V,.W],.box [.I,.I,.bc false,.bc false,.nil,.nil,.I,.I,.nil,.bc false,.nil,.I,.I,.bc false,.bc false,.nil,.nil,.I,.I,.nil,.nil,.nil,.I,.I,.I,.nil,.nil],.box [.I,.I,.b,.b,.own 3,.own 4,.I,.I,.own 5,.b,.own 6,.I,.I,.b,.b,.own 7,.own 8,.I,.I,.own 9,.own 10,.own 11,.I,.I,.I,.own 12,.own 13],.V,.V,.V,.V,.V,.V,.W,.V,.V,.V,.W,.row true (.dw [false,false,true,true])]⟩,fun K v0 v1 v2 v3 v4 v5 v6 v7 v8 v9 v10 v11 v12 fG fH eZ fq gw jF iS v20 v21 iR ij v24 j4 j5 lg v28 n4 v30 yh yi oM v37 v40 Dx Dy Dz DA rq v46 Md Me v49 Mf v51 Mg v53 Mh Mi Mj Mk Ml v59 Mm Mn Mo Mp Mq Mr Ms Mt Mu Mv v70 Mw v72=>l7 k v0 v72 (fun p0 p1 p2 p3 p4 p5 p6 p7 p8 p9 Jq Jr Js Jt OB TF TG TH TI TJ TL TM TN TO TP TQ TR=>K .ret (bZ [2,3,6,7,8] [.one (.l (.any)),.one (.l (.fP 0 0)),.one (.l (.fP 1 0)),.one (.l (.b false)),.one (.l (.fP 2 0))] [some (.box 0 [.i .i64 v2,.i .i64 v3,.b v4,.b v5,.val false (.ints .i64 v6),.val false (.ints .i64 v7),.i .i64 v8,.i .i64 v9,.val false (.ints .i64 v10),.b v11,.val false (.ints .i64 v12),.i .i64 fG,.i .i64 fH,.b eZ,.b fq,.val false (.ints .i64 gw),.val false (.ints .i64 jF),.i .i64 iS,.i .i64 v20,.val false (.rows false v21),.val false (.ints .i64 iR),.val false (.ints .i64 ij),.i .i64 v24,.i .i64 j4,.i .i64 j5,.val false (.ints .i64 lg),.val false (.rows false v28)]),some (.box 0 [.i .i64 v2,.i .i64 v3,.b v4,.b v5,.val false (.ints .i64 v6),.val false (.ints .i64 v7),.i .i64 v8,.i .i64 v9,.val false (.ints .i64 v10),.b v11,.val false (.ints .i64 v12),.i .i64 fG,.i .i64 fH,.b eZ,.b fq,.val false (.ints .i64 gw),.val false (.ints .i64 jF),.i .i64 iS,.i .i64 v20,.val false (.rows false v21),.val false (.ints .i64 iR),.val false (.ints .i64 ij),.i .i64 v24,.i .i64 j4,.i .i64 j5,.val false (.ints .i64 lg),.val false (.rows false v28)]),some (.box 0 [.i .i64 p0,.i .i64 p1,.b p2,.b p3,.own 3,.own 4,.i .i64 p4,.i .i64 p5,.own 5,.b p6,.own 6,.i .i64 p7,.i .i64 p8,.b p9,.b Jq,.own 7,.own 8,.i .i64 Jr,.i .i64 Js,.own 9,.own 10,.own 11,.i .i64 Jt,.i .i64 OB,.i .i64 TF,.own 12,.own 13]),some (.row 0 0 (.ints .i64 TG)),some (.row 0 0 (.ints .i64 TH)),some (.row 0 0 (.ints .i64 TI)),some (.row 0 0 (.ints .i64 TJ)),some (.row 0 0 (.ints .i64 TL)),some (.row 0 0 (.ints .i64 TM)),some (.row 0 0 (.rows true TN)),some (.row 0 0 (.ints .i64 TO)),some (.row 0 0 (.ints .i64 TP)),some (.row 0 0 (.ints .i64 TQ)),some (.row 0 0 (.rows true TR))])) (fun p0 p1 p2 p3 p4 p5 p6 p7 p8 p9 Jq Jr Js Jt OB TF TG TH TI TJ TL TM TN TO TP TQ TR=>K (.exit 1) (bZ [2,3,6,7,8] [.one (.l (.any)),.one (.l (.fP 0 0)),.one (.l (.fP 1 0)),.one (.l (.any)),.one (.l (.fP 2 0))] [some (.box 0 [.i .i64 v2,.i .i64 v3,.b v4,.b v5,.val false (.ints .i64 v6),.val false (.ints .i64 v7),.i .i64 v8,.i .i64 v9,.val false (.ints .i64 v10),.b v11,.val false (.ints .i64 v12),.i .i64 fG,.i .i64 fH,.b eZ,.b fq,.val false (.ints .i64 gw),.val false (.ints .i64 jF),.i .i64 iS,.i .i64 v20,.val false (.rows false v21),.val false (.ints .i64 iR),.val false (.ints .i64 ij),.i .i64 v24,.i .i64 j4,.i .i64 j5,.val false (.ints .i64 lg),.val false (.rows false v28)]),some (.box 0 [.i .i64 n4,.i .i64 v30,.b false,.b false,.nil,.nil,.i .i64 yh,.i .i64 yi,.nil,.b false,.nil,.i .i64 oM,.i .i64 v37,.b false,.b false,.nil,.nil,.i .i64 v40,.i .i64 Dx,.nil,.nil,.nil,.i .i64 Dy,.i .i64 Dz,.i .i64 DA,.nil,.nil]),some (.box 0 [.i .i64 p0,.i .i64 p1,.b p2,.b p3,.own 3,.own 4,.i .i64 p4,.i .i64 p5,.own 5,.b p6,.own 6,.i .i64 p7,.i .i64 p8,.b p9,.b Jq,.own 7,.own 8,.i .i64 Jr,.i .i64 Js,.own 9,.own 10,.own 11,.i .i64 Jt,.i .i64 OB,.i .i64 TF,.own 12,.own 13]),some (.row 0 0 (.ints .i64 TG)),some (.row 0 0 (.ints .i64 TH)),some (.row 0 0 (.ints .i64 TI)),some (.row 0 0 (.ints .i64 TJ)),some (.row 0 0 (.ints .i64 TL)),some (.row 0 0 (.ints .i64 TM)),some (.row 0 0 (.rows true TN)),some (.row 0 0 (.ints .i64 TO)),some (.row 0 0 (.ints .i64 TP)),some (.row 0 0 (.ints .i64 TQ)),some (.row 0 0 (.rows true TR))])) k v1 rq v46 Md Me v49 Mf v51 Mg v53 Mh Mi Mj Mk Ml v59 Mm Mn Mo Mp Mq Mr Ms Mt Mu Mv v70 Mw⟩
theorem aq:CtM S f:=fun k=>c1M 83 [ce (fD.aq k),ce (fE.aq k),ce (fF.aq k),ce (ah.aq k),ce (lH.aq k),ce (kS.aq k),ce (cm.aq k),ce (iD.aq k),ce (dk.aq k)] [(7,[3,6,8,27,28,29]),(100007,[2,3,6,7,8]),(400000,[])] [h7 k] Tryz.func101 (all_cons ((h7 k).fit fun K r v0 v1 v2 v3 v4 v5 v6 v7 v8 v9 v10 v11 v12 fG fH eZ fq gw jF iS v20 v21 iR ij v24 j4 j5 lg v28 n4 v30 yh yi oM v37 v40 Dx Dy Dz DA rq v46 Md Me v49 Mf v51 Mg v53 Mh Mi Mj Mk Ml v59 Mm Mn Mo Mp Mq Mr Ms Mt Mu Mv v70 Mw v72 h=>fm h (fun a m=>m v0 a.1 v2 v3 v4 v5 v6 v7 v8 v9 v10 v11 v12 fG fH eZ fq gw jF iS v20 v21 iR ij v24 j4 j5 lg v28 n4 v30 yh yi oM v37 v40 Dx Dy Dz DA a.2.1 (t2 a).1 (t3 a).1 (t4 a).1 (t5 a).1 (t6 a).1 (t7 a).1 (t8 a).1 (t9 a).1 (t9 a.2).1 (t9 (t2 a)).1 (t9 (t3 a)).1 (t9 (t4 a)).1 (t9 (t5 a)).1 (t9 (t6 a)).1 (t9 (t7 a)).1 (t9 (t8 a)).1 (t9 (t9 a)).1 (t9 (t9 a.2)).1 (t9 (t9 (t2 a))).1 (t9 (t9 (t3 a))).1 (t9 (t9 (t4 a))).1 (t9 (t9 (t5 a))).1 (t9 (t9 (t6 a))).1 (t9 (t9 (t7 a))).1 (t9 (t9 (t8 a))).1 (t9 (t9 (t9 a))) v72) fun _ v1 _ _ _ _ _ _ _ _ _ _ _ _ _ _ _ _ _ _ _ _ _ _ _ _ _ _ _ _ _ _ _ _ _ _ _ _ _ _ rq v46 Md Me v49 Mf v51 Mg v53 Mh Mi Mj Mk Ml v59 Mm Mn Mo Mp Mq Mr Ms Mt Mu Mv v70 Mw _=>some (v1,rq,v46,Md,Me,v49,Mf,v51,Mg,v53,Mh,Mi,Mj,Mk,Ml,v59,Mm,Mn,Mo,Mp,Mq,Mr,Ms,Mt,Mu,Mv,v70,Mw)) all_nil)
end aP
namespace strings_Join
def S:=so 89 [57,9] [9] .own [.l .aS .strs,.l .aS .str] [.l .own .str]
theorem aq (k:Nat):G3 Tryz.prog S (f k):=⟨⟨Tryz.f89,Tryz.func89,by kernel_rfl,by kernel_rfl⟩,fun ⟨a,g,_⟩ r h=>by
 obtain ⟨h1,h2⟩:=ak h
 obtain ⟨g1,g2⟩:=aE h1
 cases h2
 exact CY (fun bk o c xs sep w a b c' d e=>Tryz.strings_Join bk o c xs sep w a b c' d e) (fun a c sep w=>Tryz.strings_Join_none a c sep w) (Nat.le_of_ble_eq_true g1) (Nat.le_of_ble_eq_true g2)⟩
end strings_Join
namespace iX
def S:=so 91 [31] [9] .own [.agg .aS ov] [.l .own .str]
theorem aq:Ct S f:=fun k=>c0 16 [] Tryz.func91
end iX
namespace gd
def S:=so 92 [22] [9] .own [.V] [.l .own .str]
theorem aq:Ct S f:=fun k=>c0 8 [ce (aR.aq k)] Tryz.func92
end gd
namespace iY
def S:=so 28 [31] [9] .own [.agg .aS ov] [.l .own .str]
theorem aq:Ct S f:=fun k=>c0 35 [ce (cd.aq k),ce (strings_Join.aq k),ce (aF.aq k),ce (iX.aq k),ce (gd.aq k)] Tryz.func28
end iY
namespace fS
def S:=so 173 [9,9] [9] .own [.l .aS .str,.l .aS .str] [.l .own .str]
theorem aq:Ct S f:=fun k=>c0 9 [] Tryz.func173
end fS
namespace aV
def S:=so 250 [22,9] [9] .own [.V,.l .aS .str] [.l .own .str]
def h3 (k:Nat):Lh S.Y:=⟨3,⟨[.l (.s),.l (.own 0),.V,.I,.I],[.row false .strs]⟩,fun K v0 v1 v2 v3 v4=>l3 k v1 v2 (fun p0=>K (.exit 0) (bZ [1,4,5] [.one (.l (.s v0)),.one (.l (.any)),.one (.l (.own 0))] [some (.row 0 0 (.strs p0))])) k v3 v4⟩
theorem aq:Ct S f:=fun k=>c1 24 [ce (strings_Join.aq k),ce (aF.aq k)] [(3,[1,5,9,10,11]),(100003,[1,4,5])] [h3 k] Tryz.func250 (all_cons ((h3 k).fit fun K r v0 v1 v2 v3 v4 h=>fm h (fun a m=>m v0 v1 v2 a.1 a.2) fun _ _ _ v3 v4=>some (v3,v4)) all_nil)
end aV
namespace gW
def S:=so 174 [35] [9] .own [.agg .aS gF] [.l .own .str]
theorem aq:Ct S f:=fun k=>c0 19 [ce (aV.aq k)] Tryz.func174
end gW
namespace eO
def S:=so 251 [3] [9] .own [.I] [.l .own .str]
theorem aq:Ct S f:=fun k=>c0 19 [ce (aT.aq k)] Tryz.func251
end eO
namespace cw
def S:=so 175 [33] [9] .own [.agg .aS jV] [.l .own .str]
def h5 (k:Nat):Lh S.Y:=⟨5,⟨[.l (.ptr 0 0),.l (.s),.W,.I,.I],[.box [.I,.I,.b,.b,.V,.V,.I,.I,.W,.V,.V,.I,.I,.I]]⟩,fun K v0 v1 v2 v3 v4 v5 v6 v7 v8 v9 v10 v11 v12 fG fH eZ fq gw=>l5 k v1 v2 (fun p0=>K (.exit 0) (bZ [1,2,3] [.one (.l (.fP 0 0)),.one (.l (.any)),.one (.l (.s p0))] [some (.box 0 [.i .i64 v4,.i .i64 v5,.b v6,.b v7,.val false (.ints .i64 v8),.val false (.ints .i64 v9),.i .i64 v10,.i .i64 v11,.val false (.rows false v12),.val false (.ints .i64 fG),.val false (.ints .i64 fH),.i .i64 eZ,.i .i64 fq,.i .i64 gw])])) k v0 v3⟩
theorem aq:Ct S f:=fun k=>c1 44 [ce (aF.aq k),ce (cQ.aq k),ce (eO.aq k)] [(5,[1,3,24,25,26]),(100005,[1,2,3])] [h5 k] Tryz.func175 (all_cons ((h5 k).fit fun K r v0 v1 v2 v3 v4 v5 v6 v7 v8 v9 v10 v11 v12 fG fH eZ fq gw h=>fm h (fun a m=>m a.1 v1 v2 a.2 v4 v5 v6 v7 v8 v9 v10 v11 v12 fG fH eZ fq gw) fun v0 _ _ v3 _ _ _ _ _ _ _ _ _ _ _ _ _ _=>some (v0,v3)) all_nil)
end cw
namespace ff
def S:=so 253 [25] [22] .own [.l .aS .rows] [.l .own (.ints .i64)]
def h3 (k:Nat):Lh S.Y:=⟨3,⟨[.l (.own 0),.W,.I,.I],[.V]⟩,fun K v0 v1 v2 v3=>l3 k v0 v1 (fun p0=>K (.exit 0) (bZ [2,3] [.one (.l (.any)),.one (.l (.own 0))] [some (.row 0 0 (.ints .i64 p0))])) k v2 v3⟩
theorem aq:Ct S f:=fun k=>c1 20 [] [(3,[3,7,8,9]),(100003,[2,3])] [h3 k] Tryz.func253 (all_cons ((h3 k).fit fun K r v0 v1 v2 v3 h=>fm h (fun a m=>m v0 v1 a.1 a.2) fun _ _ v2 v3=>some (v2,v3)) all_nil)
end ff
namespace kT
def S:=so 176 [33,3] [169,4] .own [.agg .aS jV,.I] [.agg .own Sw,.B]
theorem aq:Ct S f:=fun k=>c0 48 [ce (an.aq k),ce (cQ.aq k),ce (aX.aq k),ce (ff.aq k)] Tryz.func176
end kT
namespace bE
def S:=so 254 [22,3,9] [9] .own [.V,.I,.l .aS .str] [.l .own .str]
def h5 (k:Nat):Lh S.Y:=⟨5,⟨[.I,.l (.s),.l (.s),.V,.I,.I],[]⟩,fun K v0 v1 v2 v3 v4 v5=>l5 k v0 v1 v3 v4 (fun p0=>K (.exit 0) (bZ [6,7] [.one (.l (.any)),.one (.l (.s p0))] [])) k v2 v5⟩
theorem aq:Ct S f:=fun k=>c1 37 [ce (aT.aq k),ce (eO.aq k)] [(5,[1,2,7,13,14,15]),(100005,[6,7])] [h5 k] Tryz.func254 (all_cons ((h5 k).fit fun K r v0 v1 v2 v3 v4 v5 h=>fm h (fun a m=>m v0 v1 a.1 v3 v4 a.2) fun _ _ v2 _ _ v5=>some (v2,v5)) all_nil)
end bE
namespace eb
def S:=so 178 [22] [9] .own [.V] [.l .own .str]
theorem aq:Ct S f:=fun k=>c0 5 [ce (bE.aq k)] Tryz.func178
end eb
namespace cx
def S:=so 177 [169] [9] .own [.agg .aS Sw] [.l .own .str]
def h6 (k:Nat):Lh S.Y:=⟨6,⟨[.l (.s),.V,.I,.I],[]⟩,fun K v0 v1 v2 v3=>l6 k v1 v2 (fun p0=>K (.exit 0) (bZ [2,4] [.one (.l (.any)),.one (.l (.s p0))] [])) k v0 v3⟩
theorem aq:Ct S f:=fun k=>c1 38 [ce (aT.aq k),ce (aF.aq k),ce (eb.aq k),ce (eO.aq k)] [(6,[4,25,26,27]),(100006,[2,4])] [h6 k] Tryz.func177 (all_cons ((h6 k).fit fun K r v0 v1 v2 v3 h=>fm h (fun a m=>m a.1 v1 v2 a.2) fun v0 _ _ v3=>some (v0,v3)) all_nil)
end cx
namespace iE
def S:=so 180 [22] [9] .own [.V] [.l .own .str]
theorem aq:Ct S f:=fun k=>c0 5 [ce (bE.aq k)] Tryz.func180
end iE
namespace bG
def S:=so 181 [25] [9] .own [.l .aS .rows] [.l .own .str]
def h5 (k:Nat):Lh S.Y:=⟨5,⟨[.l (.own 0),.W,.I,.I],[.row false .strs]⟩,fun K v0 v1 v2 v3=>l5 k v0 v1 (fun p0=>K (.exit 0) (bZ [2,3] [.one (.l (.any)),.one (.l (.own 0))] [some (.row 0 0 (.strs p0))])) k v2 v3⟩
theorem aq:Ct S f:=fun k=>c1 24 [ce (strings_Join.aq k),ce (aV.aq k)] [(5,[3,10,11,12]),(100005,[2,3])] [h5 k] Tryz.func181 (all_cons ((h5 k).fit fun K r v0 v1 v2 v3 h=>fm h (fun a m=>m v0 v1 a.1 a.2) fun _ _ v2 v3=>some (v2,v3)) all_nil)
end bG
namespace gX
def S:=so 256 [35] [4] .own [.agg .aS gF] [.B]
theorem aq:Ct S f:=fun k=>c0 21 [ce (bm.aq k),ce (mK.aq k)] Tryz.func256
end gX
namespace lW
def S:=so 257 [35] [4] .own [.agg .aS gF] [.B]
theorem aq:Ct S f:=fun k=>c0 10 [] Tryz.func257
end lW
namespace mQ
def S:=so 258 [35] [4] .own [.agg .aS gF] [.B]
theorem aq:Ct S f:=fun k=>c0 9 [ce (cg.aq k)] Tryz.func258
end mQ
namespace kt
def S:=so 182 [35] [9] .own [.agg .aS gF] [.l .own .str]
theorem aq:Ct S f:=fun k=>c0 19 [ce (gm.aq k),ce (gX.aq k),ce (lW.aq k),ce (mQ.aq k)] Tryz.func182
end kt
namespace bH
def S:=so 183 [25] [9] .own [.l .aS .rows] [.l .own .str]
def h5 (k:Nat):Lh S.Y:=⟨5,⟨[.l (.own 0),.W,.I,.I],[.row false .strs]⟩,fun K v0 v1 v2 v3=>l5 k v0 v1 (fun p0=>K (.exit 0) (bZ [2,3] [.one (.l (.any)),.one (.l (.own 0))] [some (.row 0 0 (.strs p0))])) k v2 v3⟩
theorem aq:Ct S f:=fun k=>c1 24 [ce (strings_Join.aq k),ce (eb.aq k)] [(5,[3,10,11,12]),(100005,[2,3])] [h5 k] Tryz.func183 (all_cons ((h5 k).fit fun K r v0 v1 v2 v3 h=>fm h (fun a m=>m v0 v1 a.1 a.2) fun _ _ v2 v3=>some (v2,v3)) all_nil)
end bH
namespace cY
def S:=so 259 [22] [4] .own [.V] [.B]
def h4 (k:Nat):Lh S.Y:=⟨4,⟨[.V,.V,.I,.I],[]⟩,fun K v0 v1 v2 v3=>l4 k v0 v1 v2 (K .ret (bZ [2] [.one (.l (.b false))] [])) (K (.exit 0) (bZ [2] [.one (.l (.any))] [])) k v3⟩
theorem aq:Ct S f:=fun k=>c1 28 [ce (aB.aq k),ce (an.aq k),ce (bN.aq k)] [(4,[0,14,15,16]),(100004,[2])] [h4 k] Tryz.func259 (all_cons ((h4 k).fit fun K r v0 v1 v2 v3 h=>fm h (fun a m=>m v0 v1 v2 a) fun _ _ _ v3=>some v3) all_nil)
end cY
namespace bT
def S:=so 260 [22] [4] .own [.V] [.B]
def h5 (k:Nat):Lh S.Y:=⟨5,⟨[.l (.own 0),.l (.own 0),.I,.I],[.V]⟩,fun K v0 v1 v2=>l5 k v0 v2 (K .ret (bZ [2] [.one (.l (.b false))] [])) (K (.exit 0) (bZ [2] [.one (.l (.any))] [])) k v1⟩
theorem aq:Ct S f:=fun k=>c1 40 [ce (aB.aq k),ce (aZ.aq k),ce (aX.aq k)] [(5,[3,16,17,18]),(100005,[2])] [h5 k] Tryz.func260 (all_cons ((h5 k).fit fun K r v0 v1 v2 h=>fm h (fun a m=>m v0 a v2) fun _ v1 _=>some v1) all_nil)
end bT
namespace cU
def S:=so 261 [22,22] [4] .own [.V,.V] [.B]
def h2 (k:Nat):Lh S.Y:=⟨2,⟨[.V,.V,.I,.I],[]⟩,fun K v0 v1 v2 v3=>l2 k v0 v1 v2 (fun p0=>K .ret (bZ [0,1,4] [.one (.l (.val false (.ints .i64 v0))),.one (.l (.val false (.ints .i64 v1))),.one (.l (.b p0))] [])) (K (.exit 0) (bZ [0,1,4] [.one (.l (.val false (.ints .i64 v0))),.one (.l (.val false (.ints .i64 v1))),.one (.l (.any))] [])) k v3⟩
theorem aq:Ct S f:=fun k=>c1 39 [] [(2,[0,1,7,8]),(100002,[0,1,4])] [h2 k] Tryz.func261 (all_cons ((h2 k).fit fun K r v0 v1 v2 v3 h=>fm h (fun a m=>m v0 v1 v2 a) fun _ _ _ v3=>some v3) all_nil)
end cU
namespace au
def S:=so 184 [22] [25] .own [.V] [.l .own .rows]
def h9 (k:Nat):Lh S.Y:=⟨9,⟨[.l (.own 0),.l (.own 1),.I,.l (.own 2),.I,.I,.l (.own 0),.I,.I],[.V,.W,.V]⟩,fun K v0 v1 v2 v3 v4 v5 v6 v7=>l9 k v0 v3 v5 (fun p0=>K (.exit 2) (bZ [2,3,4,6,23,24] [.one (.l (.any)),.one (.l (.own 0)),.one (.l (.own 1)),.one (.l (.own 2)),.one (.l (.i .i64 v1)),.one (.l (.i .i64 v2))] [some (.row 0 0 (.ints .i64 v5)),some (.row 0 0 (.rows true v6)),some (.row 0 0 (.ints .i64 p0))])) k v4 v7⟩
def XV (k:Nat):Lh S.Y:=⟨16,⟨[.l (.own 0),.l (.own 1),.l (.own 2),.I,.I,.I],[.V,.W,.V]⟩,fun K v0 v1 v2 v3 v4 v5=>QY k v4 v5 (fun p0=>K (.exit 4) (bZ [2,3,4,6,9,23,24] [.one (.l (.any)),.one (.l (.own 0)),.one (.l (.own 1)),.one (.l (.own 2)),.one (.l (.i .i64 p0)),.one (.l (.i .i64 v1)),.one (.l (.i .i64 v2))] [some (.row 0 0 (.ints .i64 v3)),some (.row 0 0 (.rows true v4)),some (.row 0 0 (.ints .i64 v5))])) k v0⟩
def h5 (k:Nat):Lh S.Y:=⟨5,⟨[.l (.own 0),.l (.own 1),.I,.I],[.V,.W]⟩,fun K v0 v1 v2 v3=>l5 k v0 v2 (fun p0=>K (.exit 0) (bZ [2,4] [.one (.l (.any)),.one (.l (.own 0))] [some (.row 0 0 (.rows true p0))])) k v1 v3⟩
theorem aq:Ct S f:=fun k=>c1 85 [ce (aB.aq k),ce (aX.aq k),ce (cY.aq k),ce (bT.aq k),ce (cU.aq k)] [(9,[3,4,5,6,23,24,28,29,30]),(100009,[2,3,4,6,23,24]),(16,[3,4,6,9,23,24]),(100016,[2,3,4,6,9,23,24]),(5,[3,4,23,24]),(100005,[2,4])] [h9 k,XV k,h5 k] Tryz.func184 (all_cons ((h5 k).fit fun K r v0 v1 v2 v3 h=>fm h (fun a m=>m v0 a.1 v2 a.2) fun _ v1 _ v3=>some (v1,v3)) (all_cons ((h9 k).fit fun K r v0 v1 v2 v3 v4 v5 v6 v7 h=>fm h (fun a m=>m v0 v1 v2 v3 a.1 v5 v6 a.2) fun _ _ _ _ v4 _ _ v7=>some (v4,v7)) (all_cons ((XV k).fit fun K r v0 v1 v2 v3 v4 v5 h=>fm h (fun a m=>m a v1 v2 v3 v4 v5) fun v0 _ _ _ _ _=>some v0) all_nil)))
end au
namespace jT
def S:=so 185 [22] [3] .own [.V] [.O]
theorem aq (k:Nat):G3 Tryz.prog S (f k):=⟨⟨Tryz.f185,Tryz.func185,by kernel_rfl,by kernel_rfl⟩,fun ⟨a,_⟩ r h=>yl.OA (fun l r h=>(aB.aq k).2 (l,()) r h) (fun l r h=>(au.aq k).2 (l,()) r h) (fun l r h=>(aJ.aq k).2 (l,()) r h) (fun l r h=>(dr.aq k).2 (l,()) r h) (fun l c r h=>(fK.aq k).2 (l,c,()) r h) (fun l c r h=>(db.aq k).2 (l,c,()) r h) h⟩
end jT
namespace aG
def S:=so 316 [22] [22,22] .own [.V] [.l .own (.ints .i64),.l .own (.ints .i64)]
def h3 (k:Nat):Lh S.Y:=⟨3,⟨[.l (.arr 0 13),.V,.I,.I],[.V]⟩,fun K v0 v1 v2 v3=>l3 k v0 v1 (fun p0=>K (.exit 0) (bZ [2,3,4] [.one (.l (.any)),.one (.l (.any)),.one (.l (.arr 0 13))] [some (.row 0 0 (.ints .i64 p0))])) k v2 v3⟩
def Ji (k:Nat):Lh S.Y:=⟨12,⟨[.l (.arr 0 13),.l (.own 1),.l (.own 2),.I,.I],[.V,.V,.V]⟩,fun K v0 v1 v2 v3 v4=>G0 k v0 v2 (fun p0 p1=>K (.exit 4) (bZ [2,3,4,7,8,9] [.one (.l (.any)),.one (.l (.any)),.one (.l (.arr 0 13)),.one (.l (.own 1)),.one (.l (.own 2)),.one (.l (.i .i64 v0))] [some (.row 0 0 (.ints .i64 v2)),some (.row 0 0 (.ints .i64 p0)),some (.row 0 0 (.ints .i64 p1))])) k v1 v3 v4⟩
def h9 (k:Nat):Lh S.Y:=⟨9,⟨[.l (.arr 0 13),.l (.own 1),.l (.own 2),.I],[.V,.V,.V]⟩,fun K v0 v1 v2 v3=>l9 k v1 (fun p0 p1=>K (.exit 2) (bZ [2,3,7,8] [.one (.l (.any)),.one (.l (.any)),.one (.l (.own 0)),.one (.l (.own 1))] [some (.row 0 0 (.ints .i64 p0)),some (.row 0 0 (.ints .i64 p1))])) k v0 v2 v3⟩
theorem aq:Ct S f:=fun k=>c1 50 [ce (bN.aq k)] [(3,[4,12,13,14]),(100003,[2,3,4]),(12,[4,7,8,9,10]),(100012,[2,3,4,7,8,9]),(9,[4,7,8,9]),(100009,[2,3,7,8])] [h3 k,Ji k,h9 k] Tryz.func316 (all_cons ((h3 k).fit fun K r v0 v1 v2 v3 h=>fm h (fun a m=>m v0 v1 a.1 a.2) fun _ _ v2 v3=>some (v2,v3)) (all_cons ((h9 k).fit fun K r v0 v1 v2 v3 h=>fm h (fun a m=>m a.1 v1 a.2.1 (t2 a)) fun v0 _ v2 v3=>some (v0,v2,v3)) (all_cons ((Ji k).fit fun K r v0 v1 v2 v3 v4 h=>fm h (fun a m=>m v0 a.1 v2 a.2.1 (t2 a)) fun _ v1 _ v3 v4=>some (v1,v3,v4)) all_nil)))
end aG
namespace gf
def S:=so 317 [22] [3] .own [.V] [.O]
theorem aq:Ct S f:=fun k=>c0 23 [ce (aI.aq k)] Tryz.func317
end gf
namespace dC
def S:=so 315 [22] [3] .own [.V] [.O]
def h6 (k:Nat):Lh S.Y:=⟨6,⟨[.V,.l (.own 0),.l (.own 1),.l (.b),.V,.I,.I],[.V,.V]⟩,fun K v0 v1 v2 v3 v4 v5 v6=>l6 k v0 v2 v3 (fun p0=>K (.exit 0) (bZ [2,3,4,5] [.one (.l (.any)),.one (.l (.own 0)),.one (.l (.own 1)),.one (.l (.b p0))] [some (.row 0 0 (.ints .i64 v5)),some (.row 0 0 (.ints .i64 v6))])) k v1 v4⟩
theorem aq:Ct S f:=fun k=>c1 88 [ce (aB.aq k),ce (aZ.aq k),ce (aG.aq k),ce (gf.aq k)] [(6,[0,3,4,5,22,23,24]),(100006,[2,3,4,5])] [h6 k] Tryz.func315 (all_cons ((h6 k).fit fun K r v0 v1 v2 v3 v4 v5 v6 h=>fm h (fun a m=>m v0 a.1 v2 v3 a.2 v5 v6) fun _ v1 _ _ v4 _ _=>some (v1,v4)) all_nil)
end dC
namespace ml
def S:=so 265 [22] [22] .own [.V] [.l .own (.ints .i64)]
theorem aq:Ct S f:=fun k=>c0 27 [ce (dC.aq k),ce (aG.aq k),ce (gf.aq k)] Tryz.func265
end ml
namespace jU
def S:=so 266 [3] [9] .own [.I] [.l .own .str]
theorem aq:Ct S f:=fun k=>c0 10 [ce (an.aq k)] Tryz.func266
end jU
namespace iZ
def S:=so 186 [22] [9] .own [.V] [.l .own .str]
theorem aq:Ct S f:=fun k=>c0 18 [ce (aV.aq k),ce (ml.aq k),ce (jU.aq k)] Tryz.func186
end iZ
namespace dm
def S:=so 187 [22] [22] .own [.V] [.l .own (.ints .i64)]
def h3 (k:Nat):Lh S.Y:=⟨3,⟨[.V,.l (.own 0),.I],[.V]⟩,fun K v0 v1 v2=>l3 k v0 (fun p0=>K (.exit 0) (bZ [2,3] [.one (.l (.any)),.one (.l (.own 0))] [some (.row 0 0 (.ints .i64 p0))])) k v1 v2⟩
theorem aq:Ct S f:=fun k=>c1 18 [ce (bF.aq k)] [(3,[0,3,6]),(100003,[2,3])] [h3 k] Tryz.func187 (all_cons ((h3 k).fit fun K r v0 v1 v2 h=>fm h (fun a m=>m v0 a.1 a.2) fun _ v1 v2=>some (v1,v2)) all_nil)
end dm
namespace kU
def S:=so 268 [3,3,3] [4] .own [.I,.I,.I] [.B]
theorem aq:Ct S f:=fun k=>c0 29 [ce (aT.aq k),ce (aZ.aq k),ce (bN.aq k)] Tryz.func268
end kU
namespace dn
def S:=so 188 [22,3] [3] .own [.V,.I] [.O]
def h5 (k:Nat):Lh S.Y:=⟨5,⟨[.V,.I,.I,.V,.I,.I],[]⟩,fun K v0 v1 v2 v3 v4 v5=>l5 k v0 v1 v3 v4 (fun p0=>K (.exit 0) (bZ [4,5] [.one (.l (.any)),.one (.l (.i .i64 p0))] [])) k v2 v5⟩
theorem aq:Ct S f:=fun k=>c1 33 [ce (aB.aq k),ce (kU.aq k)] [(5,[0,1,5,16,17,18]),(100005,[4,5])] [h5 k] Tryz.func188 (all_cons ((h5 k).fit fun K r v0 v1 v2 v3 v4 v5 h=>fm h (fun a m=>m v0 v1 a.1 v3 v4 a.2) fun _ _ v2 _ _ v5=>some (v2,v5)) all_nil)
end dn
namespace ek
def S:=so 102 [35,9,22,22] [9] .own [.agg .aS gF,.l .aS .str,.V,.V] [.l .own .str]
theorem aq:Ct S f:=fun k=>c0 91 [ce (iY.aq k),ce (aF.aq k),ce (fS.aq k),ce (gW.aq k),ce (cw.aq k),ce (kT.aq k),ce (cx.aq k),ce (eb.aq k),ce (bL.aq k),ce (iE.aq k),ce (bG.aq k),ce (kt.aq k),ce (bH.aq k),ce (au.aq k),ce (jT.aq k),ce (iZ.aq k),ce (dm.aq k),ce (dn.aq k)] Tryz.func102
end ek
namespace cL
def S:=so 31 [35,9] [35,9] .own [.agg .aS gF,.l .aS .str] [.agg .own gF,.l .own .str]
theorem aq:Ct S f:=fun k=>c0 81 [ce (ah.aq k),ce (cD.aq k),ce (cE.aq k),ce (cS.aq k),ceM (aP.aq k),ce (ek.aq k)] Tryz.func31
end cL
end Go.Proofs.YtbmmhdmljajcfaaGreatDoor
