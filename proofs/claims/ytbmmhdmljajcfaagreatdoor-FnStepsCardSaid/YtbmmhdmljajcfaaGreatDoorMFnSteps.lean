/- That the Go functions come to the answers of the plain ones. Printed by a program. -/
import Derived.Test.YtbmmhdmljajcfaaGreatDoorT
import Derived.Test.YtbmmhdmljajcfaaGreatDoorFFnSteps
import Derived.Test.YtbmmhdmljajcfaaGreatDoorParse
import Derived.Test.YtbmmhdmljajcfaaGreatDoorShelf
set_option linter.unusedVariables false
set_option maxRecDepth 100000
set_option maxHeartbeats 20000000
namespace Go.Proofs.YtbmmhdmljajcfaaGreatDoor
open Go Go.Proofs.YtbmmhdmljajcfaaGreatDoor.V Go.Proofs.YtbmmhdmljajcfaaGreatDoor.M
namespace aF
def S:=so 126 [22] [22] .own [.V] [.l .own (.ints .i64)]
theorem ay:Ct S f:=fun k=>c0 6 [] Tryz.func126
end aF
namespace cj
def S:=so 125 [31] [31] .own [.agg .aZ mi] [.agg .own mi]
theorem ay:Ct S f:=fun k=>c0 12 [ce (aF.ay k)] Tryz.func125
end cj
namespace bo
def S:=so 128 [25] [25] .own [.l .aZ .rows] [.l .own .rows]
def h3 (k:Nat):Lh S.Y:=⟨3,⟨[.l (.own 0),.W,.I,.I],[.W]⟩,fun K v0 v1 v2 v3=>l3 k v0 v1 (fun p0=>K (.exit 0) (cA [2,3] [.one (.l (.any)),.one (.l (.own 0))] [some (.row 0 0 (.rows true p0))])) k v2 v3⟩
theorem ay:Ct S f:=fun k=>c1 20 [ce (aF.ay k)] [(3,[3,7,8,9]),(100003,[2,3])] [h3 k] Tryz.func128 (all_cons ((h3 k).fit fun K r v0 v1 v2 v3 h=>fm h (fun a m=>m v0 v1 a.1 a.2) fun _ _ v2 v3=>some (v2,v3)) all_nil)
end bo
namespace bS
def S:=so 127 [33] [33] .own [.agg .aZ iM] [.agg .own iM]
theorem ay:Ct S f:=fun k=>c0 22 [ce (cj.ay k),ce (aF.ay k),ce (bo.ay k)] Tryz.func127
end bS
namespace aD
def S:=so 50 [35] [35] .own [.agg .aZ fF] [.agg .own fF]
theorem ay:Ct S f:=fun k=>c0 24 [ce (cj.ay k),ce (aF.ay k),ce (bS.ay k),ce (bo.ay k)] Tryz.func50
end aD
namespace an
def S:=so 148 [3,3,3] [4] .own [.I,.I,.I] [.B]
theorem ay:Ct S f:=fun k=>c0 15 [] Tryz.func148
end an
namespace iN
def S:=so 308 [3] [4] .own [.I] [.B]
theorem ay:Ct S f:=fun k=>c0 17 [ce (an.ay k)] Tryz.func308
end iN
namespace bb
def S:=so 240 [22] [4] .own [.V] [.B]
def h3 (k:Nat):Lh S.Y:=⟨3,⟨[.V,.I,.V,.I,.I],[]⟩,fun K v0 v1 v2 v3 v4=>l3 k v2 v3 (fun p0=>K .ret (cA [0,2,3] [.one (.l (.val false (.ints .i64 v0))),.one (.l (.b false)),.one (.l (.i .i64 p0))] [])) (fun p0=>K (.exit 0) (cA [0,2,3] [.one (.l (.val false (.ints .i64 v0))),.one (.l (.any)),.one (.l (.i .i64 p0))] [])) k v1 v4⟩
theorem ay:Ct S f:=fun k=>c1 45 [ce (an.ay k),ce (iN.ay k)] [(3,[0,3,6,7,8]),(100003,[0,2,3])] [h3 k] Tryz.func240 (all_cons ((h3 k).fit fun K r v0 v1 v2 v3 v4 h=>fm h (fun a m=>m v0 a.1 v2 v3 a.2) fun _ v1 _ _ v4=>some (v1,v4)) all_nil)
end bb
namespace eK
def S:=so 158 [22] [4] .own [.V] [.B]
theorem ay:Ct S f:=fun k=>c0 10 [ce (bb.ay k)] Tryz.func158
end eK
namespace bN
def S:=so 85 [31] [4] .own [.agg .aZ mi] [.B]
theorem ay:Ct S f:=fun k=>c0 39 [ce (an.ay k),ce (eK.ay k)] Tryz.func85
end bN
namespace strings_Join
def S:=so 89 [57,9] [9] .own [.l .aZ .strs,.l .aZ .str] [.l .own .str]
theorem ay (k:Nat):Ci Tryz.prog S (f k):=⟨⟨Tryz.f89,Tryz.func89,by kernel_rfl,by kernel_rfl⟩,fun ⟨a,g,_⟩ r h=>by
 obtain ⟨h1,h2⟩:=ai h
 obtain ⟨g1,g2⟩:=az h1
 cases h2
 exact AM (fun bk o c xs sep w a b c' d e=>Tryz.strings_Join bk o c xs sep w a b c' d e) (fun a c sep w=>Tryz.strings_Join_none a c sep w) (Nat.le_of_ble_eq_true g1) (Nat.le_of_ble_eq_true g2)⟩
end strings_Join
namespace strconv_Itoa
def S:=so 163 [3] [9] .own [.I] [.l .own .str]
theorem ay (k:Nat):Ci Tryz.prog S (f k):=⟨⟨Tryz.f163,Tryz.func163,by kernel_rfl,by kernel_rfl⟩,fun ⟨a,_⟩ r h=>by
 obtain ⟨h1,h2⟩:=ai h
 obtain ⟨g1,g2⟩:=az h1
 cases h2
 exact AN (by kernel_rfl) (fun n a b w t=>Tryz.strconv_Itoa n a b w t) (of_decide_eq_true g1) (of_decide_eq_true g2)⟩
end strconv_Itoa
namespace cg
def S:=so 90 [3] [9] .own [.I] [.l .own .str]
theorem ay:Ct S f:=fun k=>c0 5 [ce (strconv_Itoa.ay k)] Tryz.func90
end cg
namespace gv
def S:=so 91 [31] [9] .own [.agg .aZ mi] [.l .own .str]
theorem ay:Ct S f:=fun k=>c0 16 [] Tryz.func91
end gv
namespace fZ
def S:=so 245 [3] [9] .own [.I] [.l .own .str]
theorem ay:Ct S f:=fun k=>c0 31 [] Tryz.func245
end fZ
namespace aH
def S:=so 164 [22] [9] .own [.V] [.l .own .str]
def h5 (k:Nat):Lh S.Y:=⟨5,⟨[.l (.own 0),.V,.I,.I],[.row false .strs]⟩,fun K v0 v1 v2 v3=>l5 k v0 v1 (fun p0=>K (.exit 0) (cA [2,3] [.one (.l (.any)),.one (.l (.own 0))] [some (.row 0 0 (.strs p0))])) k v2 v3⟩
theorem ay:Ct S f:=fun k=>c1 85 [ce (bb.ay k),ce (fZ.ay k)] [(5,[3,11,12,13]),(100005,[2,3])] [h5 k] Tryz.func164 (all_cons ((h5 k).fit fun K r v0 v1 v2 v3 h=>fm h (fun a m=>m v0 v1 a.1 a.2) fun _ _ v2 v3=>some (v2,v3)) all_nil)
end aH
namespace eH
def S:=so 92 [22] [9] .own [.V] [.l .own .str]
theorem ay:Ct S f:=fun k=>c0 8 [ce (aH.ay k)] Tryz.func92
end eH
namespace d_
def S:=so 28 [31] [9] .own [.agg .aZ mi] [.l .own .str]
theorem ay:Ct S f:=fun k=>c0 35 [ce (bN.ay k),ce (strings_Join.ay k),ce (cg.ay k),ce (gv.ay k),ce (eH.ay k)] Tryz.func28
end d_
namespace aX
def S:=so 103 [9,5] [57] .own [.l .aZ .str,.l .aZ (.int .u8)] [.l .own .strs]
def h3 (k:Nat):Lh S.Y:=⟨3,⟨[.l (.s),.l (.i .u8),.l (.own 0),.I,.I,.I],[.row false .strs]⟩,fun K v0 v1 v2 v3 v4 v5=>l3 k v0 v1 v3 (fun p0 p1=>K (.exit 0) (cA [0,4,5,6] [.one (.l (.s v0)),.one (.l (.any)),.one (.l (.own 0)),.one (.l (.i .i64 p0))] [some (.row 0 0 (.strs p1))])) k v2 v4 v5⟩
theorem ay:Ct S f:=fun k=>c1 35 [] [(3,[0,1,5,6,10,11]),(100003,[0,4,5,6])] [h3 k] Tryz.func103 (all_cons ((h3 k).fit fun K r v0 v1 v2 v3 v4 v5 h=>fm h (fun a m=>m v0 v1 a.1 v3 a.2.1 (t2 a)) fun _ _ v2 _ v4 v5=>some (v2,v4,v5)) all_nil)
end aX
namespace strings_CutPrefix
def S:=so 220 [9,9] [9,4] .own [.l .aZ .str,.l .aZ .str] [.l .own .str,.B]
theorem ay (k:Nat):Ci Tryz.prog S (f k):=⟨⟨Tryz.f220,Tryz.func220,by kernel_rfl,by kernel_rfl⟩,fun ⟨a,g,_⟩ r h=>by
 have h:some _=some r:=h
 cases h
 exact tc (g:=tY) (q:=sX) (fun s p w=>Tryz.strings_CutPrefix s p w) a g⟩
end strings_CutPrefix
namespace ff
def S:=so 129 [9,9] [9,4] .own [.l .aZ .str,.l .aZ .str] [.l .own .str,.B]
theorem ay:Ct S f:=fun k=>c0 18 [ce (strings_CutPrefix.ay k)] Tryz.func129
end ff
namespace strconv_Atoi
def S:=so 221 [9] [3,155] .own [.l .aZ .str] [.O,.l .own .err]
theorem ay (k:Nat):Ci Tryz.prog S (f k):=⟨⟨Tryz.f221,Tryz.func221,by kernel_rfl,by kernel_rfl⟩,fun ⟨a,_⟩ r h=>by
 obtain ⟨h1,h2⟩:=ai h
 cases h2
 exact AO (by kernel_rfl) (fun s n a b w=>Tryz.strconv_Atoi s n a b w) (fun s a b tp x w hv=>(Tryz.strconv_Atoi_err_var s a b tp x w hv).mono fun e w' ⟨N,he,_,_,hb⟩=>⟨N,he,hb⟩) (Nat.le_of_ble_eq_true h1)⟩
end strconv_Atoi
namespace dw
def S:=so 130 [9] [3,4] .own [.l .aZ .str] [.O,.B]
theorem ay:Ct S f:=fun k=>c0 28 [ce (cg.ay k),ce (an.ay k),ce (strconv_Atoi.ay k)] Tryz.func130
end dw
namespace dV
def S:=so 131 [9] [22,4] .own [.l .aZ .str] [.l .own (.ints .i64),.B]
theorem ay (k:Nat):Ci Tryz.prog S (f k):=⟨⟨Tryz.f131,Tryz.func131,by kernel_rfl,by kernel_rfl⟩,fun ⟨a,_⟩ r h=>DR.I6 (fun l r h=>(aH.ay k).2 (l,()) r h) h⟩
end dV
namespace bg
def S:=so 51 [9] [31,4] .own [.l .aZ .str] [.agg .own mi,.B]
def h7 (k:Nat):Lh S.Y:=⟨7,⟨[.l (.s),.l (.ptr 0 0),.l (.own 1),.l (.own 2),.l (.own 3),.I,.I],[.box [.I,.I,.bc false,.bc false,.nil,.nil,.I,.I],.row false .strs,.row false .strs,.row false .strs]⟩,fun K v0 v1 v2 v3 v4 v7 v8 v9 v10 v11=>l7 k v1 v9 v11 (fun p0=>K .ret (cA [0,2,3,6] [.one (.l (.s v0)),.one (.l (.eJ 0 0)),.one (.l (.b false)),.one (.l (.own 1))] [some (.box 0 [.i .i64 0,.i .i64 0,.b false,.b false,.nil,.nil,.i .i64 0,.i .i64 0]),some (.row 0 0 (.strs p0))])) (fun p0=>K (.exit 0) (cA [0,2,3,6] [.one (.l (.s v0)),.one (.l (.eJ 0 0)),.one (.l (.any)),.one (.l (.own 1))] [some (.box 0 [.i .i64 v3,.i .i64 v4,.b false,.b false,.nil,.nil,.i .i64 v7,.i .i64 v8]),some (.row 0 0 (.strs p0))])) k v2 v10⟩
theorem ay:Ct S f:=fun k=>c1 114 [ce (d_.ay k),ce (bN.ay k),ce (aX.ay k),ce (ff.ay k),ce (dw.ay k),ce (dV.ay k)] [(7,[0,2,5,6,22,23,24]),(100007,[0,2,3,6])] [h7 k] Tryz.func51 (all_cons ((h7 k).fit fun K r v0 v1 v2 v3 v4 v7 v8 v9 v10 v11 h=>fm h (fun a m=>m v0 v1 a.1 v3 v4 v7 v8 v9 a.2 v11) fun _ _ v2 _ _ _ _ _ v10 _=>some (v2,v10)) all_nil)
end bg
namespace bX
def S:=so 79 [3] [4] .own [.I] [.B]
theorem ay:Ct S f:=fun k=>c0 5 [ce (an.ay k)] Tryz.func79
end bX
namespace bI
def S:=so 142 [22] [4] .own [.V] [.B]
def h3 (k:Nat):Lh S.Y:=⟨3,⟨[.l (.arr 0 52),.V,.I,.I],[.row false .cx]⟩,fun K v0 v1 v2 v3=>l3 k v0 v1 (K .ret (cA [2] [.one (.l (.b false))] [])) (K (.exit 0) (cA [2] [.one (.l (.any))] [])) k v2 v3⟩
theorem ay:Ct S f:=fun k=>c1 24 [ce (bX.ay k)] [(3,[3,7,8,9]),(100003,[2])] [h3 k] Tryz.func142 (all_cons ((h3 k).fit fun K r v0 v1 v2 v3 h=>fm h (fun a m=>m v0 v1 a.1 a.2) fun _ _ v2 v3=>some (v2,v3)) all_nil)
end bI
namespace cW
def S:=so 143 [22,3,3] [25,22,4] .own [.V,.I,.I] [.l .own .rows,.l .own (.ints .i64),.B]
def h5 (k:Nat):Lh S.Y:=⟨5,⟨[.V,.I,.I,.l (.own 0),.V,.I,.I],[.W]⟩,fun K v0 v1 v2 v3 v4 v5 v6=>l5 k v1 v3 v4 (fun p0=>K (.exit 0) (cA [0,1,2,6,7,8,9] [.one (.l (.val false (.ints .i64 v0))),.one (.l (.i .i64 v1)),.one (.l (.i .i64 v2)),.one (.l (.any)),.one (.l (.any)),.one (.l (.any)),.one (.l (.own 0))] [some (.row 0 0 (.rows true p0))])) k v5 v6⟩
theorem ay:Ct S f:=fun k=>c1 70 [ce (aF.ay k),ce (bI.ay k),ce (an.ay k)] [(5,[0,1,2,9,41,42,43]),(100005,[0,1,2,6,7,8,9])] [h5 k] Tryz.func143 (all_cons ((h5 k).fit fun K r v0 v1 v2 v3 v4 v5 v6 h=>fm h (fun a m=>m v0 v1 v2 v3 v4 a.1 a.2) fun _ _ _ _ _ v5 v6=>some (v5,v6)) all_nil)
end cW
namespace fy
def S:=so 75 [31,22] [33,4] .own [.agg .aZ mi,.V] [.agg .own iM,.B]
theorem ay:Ct S f:=fun k=>c0 44 [ce (bN.ay k),ce (cj.ay k),ce (aF.ay k),ce (bI.ay k),ce (cW.ay k)] Tryz.func75
end fy
namespace dq
def S:=so 153 [22] [3] .own [.V] [.O]
def h3 (k:Nat):Lh S.Y:=⟨3,⟨[.I,.V,.I,.I],[]⟩,fun K v0 v1 v2 v3=>l3 k v1 v2 (fun p0=>K (.exit 0) (cA [2,3] [.one (.l (.any)),.one (.l (.i .i64 p0))] [])) k v0 v3⟩
theorem ay:Ct S f:=fun k=>c1 17 [] [(3,[3,6,7,8]),(100003,[2,3])] [h3 k] Tryz.func153 (all_cons ((h3 k).fit fun K r v0 v1 v2 v3 h=>fm h (fun a m=>m a.1 v1 v2 a.2) fun v0 _ _ v3=>some (v0,v3)) all_nil)
end dq
namespace dQ
def S:=so 241 [22,3,3] [4] .own [.V,.I,.I] [.B]
def h2 (k:Nat):Lh S.Y:=⟨2,⟨[.I,.I,.V,.I,.I],[]⟩,fun K v0 v1 v2 v3 v4=>l2 k v0 v1 v2 v3 (K .ret (cA [6] [.one (.l (.b false))] [])) (K (.exit 0) (cA [6] [.one (.l (.any))] [])) k v4⟩
theorem ay:Ct S f:=fun k=>c1 21 [ce (an.ay k)] [(2,[1,2,9,10,11]),(100002,[6])] [h2 k] Tryz.func241 (all_cons ((h2 k).fit fun K r v0 v1 v2 v3 v4 h=>fm h (fun a m=>m v0 v1 v2 v3 a) fun _ _ _ _ v4=>some v4) all_nil)
end dQ
namespace iT
def S:=so 159 [3,22] [4] .own [.I,.V] [.B]
theorem ay:Ct S f:=fun k=>c0 22 [ce (an.ay k),ce (dq.ay k),ce (dQ.ay k)] Tryz.func159
end iT
namespace cG
def S:=so 86 [3,25] [4] .own [.I,.l .aZ .rows] [.B]
def h2 (k:Nat):Lh S.Y:=⟨2,⟨[.I,.W,.W,.I,.I],[]⟩,fun K v0 v1 v2 v3 v4=>l2 k v0 v2 v3 (K .ret (cA [0,1,4] [.one (.l (.i .i64 v0)),.one (.l (.val false (.rows false v1))),.one (.l (.b false))] [])) (K (.exit 0) (cA [0,1,4] [.one (.l (.i .i64 v0)),.one (.l (.val false (.rows false v1))),.one (.l (.any))] [])) k v4⟩
theorem ay:Ct S f:=fun k=>c1 25 [ce (an.ay k),ce (iT.ay k)] [(2,[0,1,7,8,9]),(100002,[0,1,4])] [h2 k] Tryz.func86 (all_cons ((h2 k).fit fun K r v0 v1 v2 v3 v4 h=>fm h (fun a m=>m v0 v1 v2 v3 a) fun _ _ _ _ v4=>some v4) all_nil)
end cG
namespace aB
def S:=so 94 [22,22] [4] .own [.V,.V] [.B]
def h4 (k:Nat):Lh S.Y:=⟨4,⟨[.V,.V,.I,.I],[]⟩,fun K v0 v1 v2 v3=>l4 k v0 v1 v2 (K .ret (cA [4] [.one (.l (.b false))] [])) (K (.exit 0) (cA [4] [.one (.l (.any))] [])) k v3⟩
theorem ay:Ct S f:=fun k=>c1 26 [] [(4,[0,1,12,13]),(100004,[4])] [h4 k] Tryz.func94 (all_cons ((h4 k).fit fun K r v0 v1 v2 v3 h=>fm h (fun a m=>m v0 v1 v2 a) fun _ _ _ v3=>some v3) all_nil)
end aB
namespace cR
def S:=so 93 [31,31] [4] .own [.agg .aZ mi,.agg .aZ mi] [.B]
theorem ay:Ct S f:=fun k=>c0 59 [ce (aB.ay k)] Tryz.func93
end cR
namespace br
def S:=so 95 [25,25] [4] .own [.l .aZ .rows,.l .aZ .rows] [.B]
def h4 (k:Nat):Lh S.Y:=⟨4,⟨[.W,.W,.I,.I],[]⟩,fun K v0 v1 v2 v3=>l4 k v0 v1 v2 (K .ret (cA [4] [.one (.l (.b false))] [])) (K (.exit 0) (cA [4] [.one (.l (.any))] [])) k v3⟩
theorem ay:Ct S f:=fun k=>c1 27 [ce (aB.ay k)] [(4,[0,1,12,13]),(100004,[4])] [h4 k] Tryz.func95 (all_cons ((h4 k).fit fun K r v0 v1 v2 v3 h=>fm h (fun a m=>m v0 v1 v2 a) fun _ _ _ v3=>some v3) all_nil)
end br
namespace cC
def S:=so 87 [33,33] [4] .own [.agg .aZ iM,.agg .aZ iM] [.B]
theorem ay:Ct S f:=fun k=>c0 52 [ce (cR.ay k),ce (aB.ay k),ce (br.ay k)] Tryz.func87
end cC
namespace cq
def S:=so 305 [25] [4] .own [.l .aZ .rows] [.B]
def h3 (k:Nat):Lh S.Y:=⟨3,⟨[.l (.own 0),.W,.I,.I],[.V]⟩,fun K v0 v1 v2 v3=>l3 k v0 v1 (fun p0=>K (.exit 0) (cA [2,3] [.one (.l (.any)),.one (.l (.own 0))] [some (.row 0 0 (.ints .i64 p0))])) k v2 v3⟩
theorem ay:Ct S f:=fun k=>c1 19 [ce (bI.ay k)] [(3,[3,7,8,9]),(100003,[2,3])] [h3 k] Tryz.func305 (all_cons ((h3 k).fit fun K r v0 v1 v2 v3 h=>fm h (fun a m=>m v0 v1 a.1 a.2) fun _ _ v2 v3=>some (v2,v3)) all_nil)
end cq
namespace bF
def S:=so 306 [25] [3] .own [.l .aZ .rows] [.O]
def h3 (k:Nat):Lh S.Y:=⟨3,⟨[.I,.W,.I,.I],[]⟩,fun K v0 v1 v2 v3=>l3 k v1 v2 (fun p0=>K (.exit 0) (cA [2,3] [.one (.l (.any)),.one (.l (.i .i64 p0))] [])) k v0 v3⟩
theorem ay:Ct S f:=fun k=>c1 18 [] [(3,[3,6,7,8]),(100003,[2,3])] [h3 k] Tryz.func306 (all_cons ((h3 k).fit fun K r v0 v1 v2 v3 h=>fm h (fun a m=>m a.1 v1 v2 a.2) fun v0 _ _ v3=>some (v0,v3)) all_nil)
end bF
namespace iU
def S:=so 238 [25] [4] .own [.l .aZ .rows] [.B]
theorem ay:Ct S f:=fun k=>c0 10 [ce (cq.ay k),ce (bF.ay k)] Tryz.func238
end iU
namespace cT
def S:=so 150 [33] [4] .own [.agg .aZ iM] [.B]
theorem ay:Ct S f:=fun k=>c0 57 [ce (bN.ay k),ce (bo.ay k),ce (an.ay k),ce (iU.ay k)] Tryz.func150
end cT
namespace bY
def S:=so 151 [33] [3] .own [.agg .aZ iM] [.O]
def h4 (k:Nat):Lh S.Y:=⟨4,⟨[.W,.I,.I],[]⟩,fun K v0 v1 v2=>l4 k v0 v1 (fun p0=>K .ret (cA [2] [.one (.l (.i .i64 p0))] [])) (K (.exit 0) (cA [2] [.one (.l (.any))] [])) k v2⟩
theorem ay:Ct S f:=fun k=>c1 21 [ce (cT.ay k)] [(4,[9,10,11]),(100004,[2])] [h4 k] Tryz.func151 (all_cons ((h4 k).fit fun K r v0 v1 v2 h=>fm h (fun a m=>m v0 v1 a) fun _ _ v2=>some v2) all_nil)
end bY
namespace eh
def S:=so 82 [33] [4] .own [.agg .aZ iM] [.B]
theorem ay:Ct S f:=fun k=>c0 26 [ce (cT.ay k),ce (bY.ay k)] Tryz.func82
end eh
namespace bx
def S:=so 236 [33] [33,4] .own [.agg .aZ iM] [.agg .own iM,.B]
def h6 (k:Nat):Lh S.Y:=⟨6,⟨[.l (.ptr 0 0),.l (.ptr 1 0),.l (.ptr 2 0),.I,.I,.I],[.box [.I,.I,.b,.b,.V,.V,.I,.I,.W,.V,.V,.I,.I,.I],.box [.I,.I,.bc false,.bc false,.nil,.nil,.I,.I,.nil,.nil,.nil,.I,.I,.I],.box [.I,.I,.b,.b,.own 3,.own 4,.I,.I,.own 5,.own 6,.own 7,.I,.I,.I],.V,.V,.W,.V,.V]⟩,fun K v0 v1 v2 v3 v4 v5 v6 v7 v8 v9 v10 v11 v12 fu fq eR fc gu kx v21 iL gL v24 jY jZ lM v28 oR v30 v31 pN oS oT pO kR v37 fA ld=>l6 k v1 fq (fun p0 p1 p2 p3=>K (.exit 0) (cA [1,2,3,4,5] [.one (.l (.eJ 0 0)),.one (.l (.eJ 1 0)),.one (.l (.any)),.one (.l (.eJ 2 0)),.one (.l (.i .i64 p0))] [some (.box 0 [.i .i64 v3,.i .i64 v4,.b v5,.b v6,.val false (.ints .i64 v7),.val false (.ints .i64 v8),.i .i64 v9,.i .i64 v10,.val false (.rows false v11),.val false (.ints .i64 v12),.val false (.ints .i64 fu),.i .i64 fq,.i .i64 eR,.i .i64 fc]),some (.box 0 [.i .i64 gu,.i .i64 kx,.b false,.b false,.nil,.nil,.i .i64 v21,.i .i64 iL,.nil,.nil,.nil,.i .i64 gL,.i .i64 v24,.i .i64 jY]),some (.box 0 [.i .i64 jZ,.i .i64 lM,.b v28,.b oR,.own 3,.own 4,.i .i64 v30,.i .i64 v31,.own 5,.own 6,.own 7,.i .i64 pN,.i .i64 oS,.i .i64 oT]),some (.row 0 0 (.ints .i64 pO)),some (.row 0 0 (.ints .i64 kR)),some (.row 0 0 (.rows true p1)),some (.row 0 0 (.ints .i64 p2)),some (.row 0 0 (.ints .i64 p3))])) k v0 v2 v37 fA ld⟩
theorem ay:Ct S f:=fun k=>c1 91 [ce (eh.ay k),ce (aF.ay k),ce (bS.ay k),ce (cT.ay k)] [(6,[1,2,4,5,19,20]),(100006,[1,2,3,4,5])] [h6 k] Tryz.func236 (all_cons ((h6 k).fit fun K r v0 v1 v2 v3 v4 v5 v6 v7 v8 v9 v10 v11 v12 fu fq eR fc gu kx v21 iL gL v24 jY jZ lM v28 oR v30 v31 pN oS oT pO kR v37 fA ld h=>fm h (fun a m=>m a.1 v1 a.2.1 v3 v4 v5 v6 v7 v8 v9 v10 v11 v12 fu fq eR fc gu kx v21 iL gL v24 jY jZ lM v28 oR v30 v31 pN oS oT pO kR (t2 a).1 (t3 a).1 (t4 a)) fun v0 _ v2 _ _ _ _ _ _ _ _ _ _ _ _ _ _ _ _ _ _ _ _ _ _ _ _ _ _ _ _ _ _ _ _ v37 fA ld=>some (v0,v2,v37,fA,ld)) all_nil)
end bx
namespace bi
def S:=so 252 [22] [22] .own [.V] [.l .own (.ints .i64)]
def h6 (k:Nat):Lh S.Y:=⟨6,⟨[.l (.own 0),.I,.I,.V,.I,.I],[.V]⟩,fun K v0 v1 v2 v3 v4 v5=>l6 k v0 v5 (fun p0=>K (.exit 2) (cA [2,3,5,6,8,9,10] [.one (.l (.any)),.one (.l (.own 0)),.one (.l (.i .i64 v0)),.one (.l (.i .i64 p0)),.one (.l (.val false (.ints .i64 v2))),.one (.l (.i .i64 v3)),.one (.l (.i .i64 v4))] [some (.row 0 0 (.ints .i64 v5))])) k v1⟩
def h3 (k:Nat):Lh S.Y:=⟨3,⟨[.l (.own 0),.V,.I,.I],[.V]⟩,fun K v0 v1 v2 v3=>l3 k v0 v1 (fun p0=>K (.exit 0) (cA [2,3] [.one (.l (.any)),.one (.l (.own 0))] [some (.row 0 0 (.ints .i64 p0))])) k v2 v3⟩
theorem ay:Ct S f:=fun k=>c1 46 [] [(6,[3,5,6,8,9,10]),(100006,[2,3,5,6,8,9,10]),(3,[3,8,9,10]),(100003,[2,3])] [h6 k,h3 k] Tryz.func252 (all_cons ((h3 k).fit fun K r v0 v1 v2 v3 h=>fm h (fun a m=>m v0 v1 a.1 a.2) fun _ _ v2 v3=>some (v2,v3)) (all_cons ((h6 k).fit fun K r v0 v1 v2 v3 v4 v5 h=>fm h (fun a m=>m v0 a v2 v3 v4 v5) fun _ v1 _ _ _ _=>some v1) all_nil))
end bi
namespace dP
def S:=so 249 [3] [3] .own [.I] [.O]
theorem ay:Ct S f:=fun k=>c0 8 [ce (bX.ay k)] Tryz.func249
end dP
namespace dz
def S:=so 313 [3] [3] .own [.I] [.O]
theorem ay:Ct S f:=fun k=>c0 8 [ce (bX.ay k)] Tryz.func313
end dz
namespace kw
def S:=so 346 [3] [4] .own [.I] [.B]
theorem ay:Ct S f:=fun k=>c0 11 [ce (dP.ay k)] Tryz.func346
end kw
namespace kF
def S:=so 318 [3,3] [4] .own [.I,.I] [.B]
theorem ay:Ct S f:=fun k=>c0 31 [ce (dP.ay k),ce (dz.ay k),ce (kw.ay k)] Tryz.func318
end kF
namespace bB
def S:=so 267 [22,3] [4] .own [.V,.I] [.B]
def h5 (k:Nat):Lh S.Y:=⟨5,⟨[.I,.l (.own 0),.V,.I,.I],[.row false .cx]⟩,fun K v0 v1 v2 v3 v4=>l5 k v0 v1 v2 (fun p0=>K (.exit 0) (cA [4,5] [.one (.l (.any)),.one (.l (.own 0))] [some (.row 0 0 (.cx p0))])) k v3 v4⟩
theorem ay:Ct S f:=fun k=>c1 89 [ce (bX.ay k),ce (bb.ay k),ce (kF.ay k)] [(5,[1,5,18,19,20]),(100005,[4,5])] [h5 k] Tryz.func267 (all_cons ((h5 k).fit fun K r v0 v1 v2 v3 v4 h=>fm h (fun a m=>m v0 v1 v2 a.1 a.2) fun _ _ _ v3 v4=>some (v3,v4)) all_nil)
end bB
namespace jr
def S:=so 255 [31,3,3] [4] .own [.agg .aZ mi,.I,.I] [.B]
theorem ay:Ct S f:=fun k=>c0 46 [ce (bX.ay k),ce (bN.ay k),ce (dP.ay k),ce (bB.ay k),ce (dz.ay k)] Tryz.func255
end jr
namespace cr
def S:=so 179 [33] [22] .own [.agg .aZ iM] [.l .own (.ints .i64)]
def h5 (k:Nat):Lh S.Y:=⟨5,⟨[.l (.ptr 0 0),.l (.own 1),.l (.own 2),.I,.I],[.box [.I,.I,.b,.b,.V,.V,.I,.I,.W,.V,.V,.I,.I,.I],.V,.V]⟩,fun K v0 v1 v2 v3 v4 v5 v6 v7 v8 v9 _ _ v12 _ _ _ fc gu=>l5 k v0 v2 v3 v4 v5 v6 v7 v8 v9 v12 gu (fun p0=>K (.exit 0) (cA [2,3] [.one (.l (.any)),.one (.l (.own 0))] [some (.row 0 0 (.ints .i64 p0))])) k v1 fc⟩
theorem ay:Ct S f:=fun k=>c1 44 [ce (eh.ay k),ce (cT.ay k),ce (bi.ay k),ce (jr.ay k)] [(5,[1,3,20,21,22]),(100005,[2,3])] [h5 k] Tryz.func179 (all_cons ((h5 k).fit fun K r v0 v1 v2 v3 v4 v5 v6 v7 v8 v9 v10 v11 v12 fu fq eR fc gu h=>fm h (fun a m=>m v0 a.1 v2 v3 v4 v5 v6 v7 v8 v9 v10 v11 v12 fu fq eR a.2 gu) fun _ v1 _ _ _ _ _ _ _ _ _ _ _ _ _ _ fc _=>some (v1,fc)) all_nil)
end cr
namespace df
def S:=so 314 [22,3] [3] .own [.V,.I] [.O]
def h2 (k:Nat):Lh S.Y:=⟨2,⟨[.I,.V,.I,.I],[]⟩,fun K v0 v1 v2 v3=>l2 k v0 v1 v2 (fun p0=>K .ret (cA [4] [.one (.l (.i .i64 p0))] [])) (K (.exit 0) (cA [4] [.one (.l (.any))] [])) k v3⟩
theorem ay:Ct S f:=fun k=>c1 19 [] [(2,[1,7,8,9]),(100002,[4])] [h2 k] Tryz.func314 (all_cons ((h2 k).fit fun K r v0 v1 v2 v3 h=>fm h (fun a m=>m v0 v1 v2 a) fun _ _ _ v3=>some v3) all_nil)
end df
namespace fB
def S:=so 263 [22,3] [4] .own [.V,.I] [.B]
theorem ay:Ct S f:=fun k=>c0 9 [ce (df.ay k)] Tryz.func263
end fB
namespace cH
def S:=so 264 [22,3] [22] .own [.V,.I] [.l .own (.ints .i64)]
def h3 (k:Nat):Lh S.Y:=⟨3,⟨[.I,.l (.own 0),.V,.I,.I],[.V]⟩,fun K v0 v1 v2 v3 v4=>l3 k v0 v1 v2 (fun p0=>K (.exit 0) (cA [4,5] [.one (.l (.any)),.one (.l (.own 0))] [some (.row 0 0 (.ints .i64 p0))])) k v3 v4⟩
theorem ay:Ct S f:=fun k=>c1 24 [] [(3,[1,5,9,10,11]),(100003,[4,5])] [h3 k] Tryz.func264 (all_cons ((h3 k).fit fun K r v0 v1 v2 v3 v4 h=>fm h (fun a m=>m v0 v1 v2 a.1 a.2) fun _ _ _ v3 v4=>some (v3,v4)) all_nil)
end cH
namespace hD
def S:=so 304 [31,3] [4] .own [.agg .aZ mi,.I] [.B]
theorem ay:Ct S f:=fun k=>c0 13 [ce (bN.ay k),ce (bB.ay k)] Tryz.func304
end hD
namespace js
def S:=so 237 [33,3] [33,4] .own [.agg .aZ iM,.I] [.agg .own iM,.B]
theorem ay:Ct S f:=fun k=>c0 54 [ce (bS.ay k),ce (cr.ay k),ce (fB.ay k),ce (cH.ay k),ce (hD.ay k)] Tryz.func237
end js
namespace ec
def S:=so 149 [33,3] [33,4] .own [.agg .aZ iM,.I] [.agg .own iM,.B]
theorem ay:Ct S f:=fun k=>c0 17 [ce (bx.ay k),ce (js.ay k)] Tryz.func149
end ec
namespace bT
def S:=so 88 [33,22] [33,3] .own [.agg .aZ iM,.V] [.agg .own iM,.O]
def h3 (k:Nat):Lh S.Y:=⟨3,⟨[.V,.l (.ptr 0 0),.l (.ptr 1 0),.V,.I,.I],[.box [.I,.I,.bc false,.bc false,.nil,.nil,.I,.I,.nil,.nil,.nil,.I,.I,.I],.box [.I,.I,.b,.b,.own 2,.own 3,.I,.I,.own 4,.own 5,.own 6,.I,.I,.I],.V,.V,.W,.V,.V]⟩,fun K v0 v1 v2 v3 v4 v5 v8 v9 v10 v11 v12 fu fq eR fc gu kx jI v20 v21 iL gL v24 jY jZ=>l3 k v1 v2 (fun p0 p1 p2 p3 p4 p5 p6 p7 p8 p9 I7 I8 I9 I_ MN=>K .ret (cA [1,4,5,6] [.one (.l (.val false (.ints .i64 v0))),.one (.l (.eJ 0 0)),.one (.l (.i .i64 p0)),.one (.l (.eJ 6 0))] [some (.box 0 [.i .i64 p1,.i .i64 p2,.b p3,.b p4,.own 1,.own 2,.i .i64 p5,.i .i64 p6,.own 3,.own 4,.own 5,.i .i64 p7,.i .i64 p8,.i .i64 p9]),some (.row 0 0 (.ints .i64 I7)),some (.row 0 0 (.ints .i64 I8)),some (.row 0 0 (.rows true I9)),some (.row 0 0 (.ints .i64 I_)),some (.row 0 0 (.ints .i64 MN)),some (.box 0 [.i .i64 p1,.i .i64 p2,.b p3,.b p4,.own 1,.own 2,.i .i64 p5,.i .i64 p6,.own 3,.own 4,.own 5,.i .i64 p7,.i .i64 p8,.i .i64 p9])])) (fun p0 p1 p2 p3 p4 p5 p6 p7 p8 p9 I7 I8 I9 I_=>K (.exit 0) (cA [1,4,5,6] [.one (.l (.val false (.ints .i64 v0))),.one (.l (.eJ 0 0)),.one (.l (.any)),.one (.l (.eJ 1 0))] [some (.box 0 [.i .i64 v4,.i .i64 v5,.b false,.b false,.nil,.nil,.i .i64 v8,.i .i64 v9,.nil,.nil,.nil,.i .i64 v10,.i .i64 v11,.i .i64 v12]),some (.box 0 [.i .i64 p0,.i .i64 p1,.b p2,.b p3,.own 2,.own 3,.i .i64 p4,.i .i64 p5,.own 4,.own 5,.own 6,.i .i64 p6,.i .i64 p7,.i .i64 p8]),some (.row 0 0 (.ints .i64 p9)),some (.row 0 0 (.ints .i64 I7)),some (.row 0 0 (.rows true I8)),some (.row 0 0 (.ints .i64 I9)),some (.row 0 0 (.ints .i64 I_))])) k v3 fu fq eR fc gu kx jI v20 v21 iL gL v24 jY jZ⟩
theorem ay:Ct S f:=fun k=>c1 35 [ce (bS.ay k),ce (ec.ay k)] [(3,[1,4,6,13,14,15]),(100003,[1,4,5,6])] [h3 k] Tryz.func88 (all_cons ((h3 k).fit fun K r v0 v1 v2 v3 v4 v5 v8 v9 v10 v11 v12 fu fq eR fc gu kx jI v20 v21 iL gL v24 jY jZ h=>fm h (fun a m=>m v0 v1 v2 a.1 v4 v5 v8 v9 v10 v11 v12 a.2.1 (t2 a).1 (t3 a).1 (t4 a).1 (t5 a).1 (t6 a).1 (t7 a).1 (t8 a).1 (t9 a).1 (t9 a.2).1 (t9 (t2 a)).1 (t9 (t3 a)).1 (t9 (t4 a)).1 (t9 (t5 a))) fun _ _ _ v3 _ _ _ _ _ _ _ fu fq eR fc gu kx jI v20 v21 iL gL v24 jY jZ=>some (v3,fu,fq,eR,fc,gu,kx,jI,v20,v21,iL,gL,v24,jY,jZ)) all_nil)
end bT
namespace cc
def S:=so 27 [35] [4] .own [.agg .aZ fF] [.B]
theorem ay:Ct S f:=fun k=>c0 85 [ce (fy.ay k),ce (bN.ay k),ce (cG.ay k),ce (cC.ay k),ce (bT.ay k)] Tryz.func27
end cc
namespace au
def S:Sp:=⟨52,⟨[35,35,4],[35,4],[.oU,.Bn,.oU],.own⟩,[.agg .aZ fF,.agg .own fF,.l .aZ .bool],[.agg .own fF,.B]⟩
theorem ay:Ct S f:=fun k=>c0 23 [ce (cc.ay k),ce (aD.ay k)] Tryz.func52
end au
namespace fL
def S:=so 11 [35,9] [35,4] .own [.agg .aZ fF,.l .aZ .str] [.agg .own fF,.B]
theorem ay:Ct S f:=fun k=>c0 39 [ce (aD.ay k),ce (bg.ay k),ce (au.ay k)] Tryz.func11
end fL
namespace tZ
def S:Sp:=⟨15,⟨[42],[4],[.eb],.own⟩,[.l .eb (.ints .u8)],[.B]⟩
theorem ay:Ct S f:=fun k=>c0 6 [] Tryz.func15
end tZ
namespace bw
def S:Sp:=⟨65,⟨[42],[84],[.eb],.own⟩,[.l .eb (.ints .u8)],[.ptr ji]⟩
def h3 (k:Nat):Lh S.Y:=⟨3,⟨[.l (.val true false (.ints .u8)),.I,.I],[]⟩,fun K v0 v1 v2=>l3 k v0 (fun p0=>K (.exit 0) (cA [0,2,3] [.one (.l (.val true (.ints .u8 v0))),.one (.l (.any)),.one (.l (.i .i64 p0))] [])) k v1 v2⟩
theorem ay:Ct S f:=fun k=>c1 32 [] [(3,[0,3,4]),(100003,[0,2,3])] [h3 k] Tryz.func65 (all_cons ((h3 k).fit fun K r v0 v1 v2 h=>fm h (fun a m=>m v0 a.1 a.2) fun _ v1 v2=>some (v1,v2)) all_nil)
end bw
namespace eO
def S:Sp:=⟨134,⟨[84],[3],[.io],.own⟩,[.ptr ji],[.O,.ptr ji]⟩
theorem ay:Ct S f:=fun k=>c0 58 [] Tryz.func134
end eO
namespace ao
def S:Sp:=⟨67,⟨[84,3],[3],[.io,.oU],.own⟩,[.ptr ji,.I],[.O,.ptr ji]⟩
theorem ay:Ct S f:=fun k=>c0 31 [ce (eO.ay k)] Tryz.func67
end ao
namespace dh
def S:=so 117 [31] [31] .own [.agg .aZ mi] [.agg .own mi]
theorem ay:Ct S f:=fun k=>c0 14 [] Tryz.func117
end dh
namespace aG
def S:=so 213 [3,3,3] [4] .own [.I,.I,.I] [.B]
theorem ay:Ct S f:=fun k=>c0 15 [] Tryz.func213
end aG
namespace iO
def S:=so 328 [3] [4] .own [.I] [.B]
theorem ay:Ct S f:=fun k=>c0 17 [ce (aG.ay k)] Tryz.func328
end iO
namespace be
def S:=so 290 [22] [4] .own [.V] [.B]
def h3 (k:Nat):Lh S.Y:=⟨3,⟨[.V,.I,.I],[]⟩,fun K v0 v1 v2=>l3 k v0 (fun p0=>K .ret (cA [0,2,3] [.one (.l (.val false (.ints .i64 v0))),.one (.l (.b false)),.one (.l (.i .i64 p0))] [])) (fun p0=>K (.exit 0) (cA [0,2,3] [.one (.l (.val false (.ints .i64 v0))),.one (.l (.any)),.one (.l (.i .i64 p0))] [])) k v1 v2⟩
theorem ay:Ct S f:=fun k=>c1 55 [ce (iO.ay k)] [(3,[0,3,4]),(100003,[0,2,3])] [h3 k] Tryz.func290 (all_cons ((h3 k).fit fun K r v0 v1 v2 h=>fm h (fun a m=>m v0 a.1 a.2) fun _ v1 v2=>some (v1,v2)) all_nil)
end be
namespace dp
def S:=so 224 [22] [4] .own [.V] [.B]
theorem ay:Ct S f:=fun k=>c0 10 [ce (be.ay k)] Tryz.func224
end dp
namespace bV
def S:=so 135 [31] [4] .own [.agg .aZ mi] [.B]
theorem ay:Ct S f:=fun k=>c0 39 [ce (aG.ay k),ce (dp.ay k)] Tryz.func135
end bV
namespace ed
def S:=so 68 [31] [35,4] .own [.agg .aZ mi] [.agg .own fF,.B]
theorem ay:Ct S f:=fun k=>c0 11 [ce (dh.ay k),ce (bV.ay k)] Tryz.func68
end ed
namespace aI
def S:Sp:=⟨72,⟨[84,3],[4],[.io,.oU],.own⟩,[.ptr ji,.I],[.B,.ptr ji]⟩
theorem ay:Ct S f:=fun k=>c0 9 [ce (ao.ay k)] Tryz.func72
end aI
namespace cv
def S:Sp:=⟨73,⟨[84,22],[3],[.io,.oU],.own⟩,[.ptr ji,.V],[.O,.ptr ji]⟩
theorem ay:Ct S f:=fun k=>c0 12 [ce (ao.ay k)] Tryz.func73
end cv
namespace eI
def S:Sp:=⟨225,⟨[84],[3],[.io],.own⟩,[.ptr ji],[.O,.ptr ji]⟩
theorem ay:Ct S f:=fun k=>c0 15 [ce (ao.ay k),ce (cv.ay k)] Tryz.func225
end eI
namespace aV
def S:Sp:=⟨136,⟨[84,3],[22],[.io,.oU],.own⟩,[.ptr ji,.I],[.l .own (.ints .i64),.ptr ji]⟩
theorem step (k:Nat) (self:LI->Int->Int->Int->Option (LI×LI×Int×Int)) (Q_:Ci Tryz.prog S self):Ci Tryz.prog S (b k self):=c0 38 [ce (ao.ay k),ce (aI.ay k),ce Q_,ce (eI.ay k)] Tryz.func136
theorem ay (k:Nat):Ci Tryz.prog S (f k):=Il (S:=S) (b:=b k) (g:=g k) ⟨Tryz.f136,Tryz.func136,by kernel_rfl,by kernel_rfl⟩ (fun _=>rfl) (fun _=>rfl) (step k) k
end aV
namespace di
def S:Sp:=⟨69,⟨[84],[31],[.io],.own⟩,[.ptr ji],[.agg .own mi,.ptr ji]⟩
theorem ay:Ct S f:=fun k=>c0 30 [ce (ao.ay k),ce (aI.ay k),ce (aV.ay k)] Tryz.func69
end di
namespace cd
def S:=so 119 [25] [25] .own [.l .aZ .rows] [.l .own .rows]
def h3 (k:Nat):Lh S.Y:=⟨3,⟨[.W,.l (.own 0),.I],[.W]⟩,fun K v0 v1 v2=>l3 k v0 (fun p0=>K (.exit 0) (cA [2,3] [.one (.l (.any)),.one (.l (.own 0))] [some (.row 0 0 (.rows true p0))])) k v1 v2⟩
theorem ay:Ct S f:=fun k=>c1 22 [] [(3,[0,3,4]),(100003,[2,3])] [h3 k] Tryz.func119 (all_cons ((h3 k).fit fun K r v0 v1 v2 h=>fm h (fun a m=>m v0 a.1 a.2) fun _ v1 v2=>some (v1,v2)) all_nil)
end cd
namespace dk
def S:=so 118 [33] [33] .own [.agg .aZ iM] [.agg .own iM]
theorem ay:Ct S f:=fun k=>c0 24 [ce (dh.ay k),ce (cd.ay k)] Tryz.func118
end dk
namespace bq
def S:=so 43 [35] [35] .own [.agg .aZ fF] [.agg .own fF]
theorem ay:Ct S f:=fun k=>c0 27 [ce (dh.ay k),ce (dk.ay k),ce (cd.ay k)] Tryz.func43
end bq
namespace cI
def S:=so 292 [3,22] [4] .own [.I,.V] [.B]
def h3 (k:Nat):Lh S.Y:=⟨3,⟨[.I,.V,.I,.I],[]⟩,fun K v0 v1 v2 v3=>l3 k v1 (fun p0=>K .ret (cA [0,1,4,5] [.one (.l (.i .i64 v0)),.one (.l (.val false (.ints .i64 v1))),.one (.l (.b false)),.one (.l (.i .i64 p0))] [])) (fun p0=>K (.exit 0) (cA [0,1,4,5] [.one (.l (.i .i64 v0)),.one (.l (.val false (.ints .i64 v1))),.one (.l (.any)),.one (.l (.i .i64 p0))] [])) k v2 v3⟩
theorem ay:Ct S f:=fun k=>c1 37 [ce (aG.ay k)] [(3,[0,1,5,6]),(100003,[0,1,4,5])] [h3 k] Tryz.func292 (all_cons ((h3 k).fit fun K r v0 v1 v2 v3 h=>fm h (fun a m=>m v0 v1 a.1 a.2) fun _ _ v2 v3=>some (v2,v3)) all_nil)
end cI
namespace cJ
def S:=so 216 [3,25] [4] .own [.I,.l .aZ .rows] [.B]
def h2 (k:Nat):Lh S.Y:=⟨2,⟨[.I,.W,.I],[]⟩,fun K v0 v1 v2=>l2 k v0 v1 (K .ret (cA [0,1,4] [.one (.l (.i .i64 v0)),.one (.l (.val false (.rows false v1))),.one (.l (.b false))] [])) (K (.exit 0) (cA [0,1,4] [.one (.l (.i .i64 v0)),.one (.l (.val false (.rows false v1))),.one (.l (.any))] [])) k v2⟩
theorem ay:Ct S f:=fun k=>c1 26 [ce (aG.ay k),ce (cI.ay k)] [(2,[0,1,5]),(100002,[0,1,4])] [h2 k] Tryz.func216 (all_cons ((h2 k).fit fun K r v0 v1 v2 h=>fm h (fun a m=>m v0 v1 a) fun _ _ v2=>some v2) all_nil)
end cJ
namespace aL
def S:=so 293 [22,22] [4] .own [.V,.V] [.B]
def h4 (k:Nat):Lh S.Y:=⟨4,⟨[.V,.V,.I],[]⟩,fun K v0 v1 v2=>l4 k v0 v1 (K .ret (cA [4] [.one (.l (.b false))] [])) (K (.exit 0) (cA [4] [.one (.l (.any))] [])) k v2⟩
theorem ay:Ct S f:=fun k=>c1 26 [] [(4,[0,1,5]),(100004,[4])] [h4 k] Tryz.func293 (all_cons ((h4 k).fit fun K r v0 v1 v2 h=>fm h (fun a m=>m v0 v1 a) fun _ _ v2=>some v2) all_nil)
end aL
namespace ee
def S:=so 294 [31,31] [4] .own [.agg .aZ mi,.agg .aZ mi] [.B]
theorem ay:Ct S f:=fun k=>c0 59 [ce (aL.ay k)] Tryz.func294
end ee
namespace aU
def S:=so 217 [33,33] [4] .own [.agg .aZ iM,.agg .aZ iM] [.B]
def h4 (k:Nat):Lh S.Y:=⟨4,⟨[.l (.ptr 0 0),.l (.ptr 1 0),.I],[.box [.I,.I,.b,.b,.V,.V,.I,.I,.W,.V,.V,.I,.I,.I],.box [.I,.I,.b,.b,.V,.V,.I,.I,.W,.V,.V,.I,.I,.I]]⟩,fun K v0 v1 v2 v3 v4 v5 v6 v7 v8 v9 v10 v11 v12 fu fq eR fc gu kx jI v20 v21 iL gL v24 jY jZ lM v28=>l4 k v9 gL (K .ret (cA [2,3,4] [.one (.l (.eJ 0 0)),.one (.l (.eJ 1 0)),.one (.l (.b false))] [some (.box 0 [.i .i64 v1,.i .i64 v2,.b v3,.b v4,.val false (.ints .i64 v5),.val false (.ints .i64 v6),.i .i64 v7,.i .i64 v8,.val false (.rows false v9),.val false (.ints .i64 v10),.val false (.ints .i64 v11),.i .i64 v12,.i .i64 fu,.i .i64 fq]),some (.box 0 [.i .i64 eR,.i .i64 fc,.b gu,.b kx,.val false (.ints .i64 jI),.val false (.ints .i64 v20),.i .i64 v21,.i .i64 iL,.val false (.rows false gL),.val false (.ints .i64 v24),.val false (.ints .i64 jY),.i .i64 jZ,.i .i64 lM,.i .i64 v28])])) (K (.exit 0) (cA [2,3,4] [.one (.l (.eJ 0 0)),.one (.l (.eJ 1 0)),.one (.l (.any))] [some (.box 0 [.i .i64 v1,.i .i64 v2,.b v3,.b v4,.val false (.ints .i64 v5),.val false (.ints .i64 v6),.i .i64 v7,.i .i64 v8,.val false (.rows false v9),.val false (.ints .i64 v10),.val false (.ints .i64 v11),.i .i64 v12,.i .i64 fu,.i .i64 fq]),some (.box 0 [.i .i64 eR,.i .i64 fc,.b gu,.b kx,.val false (.ints .i64 jI),.val false (.ints .i64 v20),.i .i64 v21,.i .i64 iL,.val false (.rows false gL),.val false (.ints .i64 v24),.val false (.ints .i64 jY),.i .i64 jZ,.i .i64 lM,.i .i64 v28])])) k v0⟩
theorem ay:Ct S f:=fun k=>c1 72 [ce (aL.ay k),ce (ee.ay k)] [(4,[2,3,5]),(100004,[2,3,4])] [h4 k] Tryz.func217 (all_cons ((h4 k).fit fun K r v0 v1 v2 v3 v4 v5 v6 v7 v8 v9 v10 v11 v12 fu fq eR fc gu kx jI v20 v21 iL gL v24 jY jZ lM v28 h=>fm h (fun a m=>m a v1 v2 v3 v4 v5 v6 v7 v8 v9 v10 v11 v12 fu fq eR fc gu kx jI v20 v21 iL gL v24 jY jZ lM v28) fun v0 _ _ _ _ _ _ _ _ _ _ _ _ _ _ _ _ _ _ _ _ _ _ _ _ _ _ _ _=>some v0) all_nil)
end aU
namespace bZ
def S:=so 190 [3] [4] .own [.I] [.B]
theorem ay:Ct S f:=fun k=>c0 5 [ce (aG.ay k)] Tryz.func190
end bZ
namespace bC
def S:=so 272 [22,3] [4] .own [.V,.I] [.B]
def h2 (k:Nat):Lh S.Y:=⟨2,⟨[.V,.I,.I],[]⟩,fun K v0 v1 v2=>l2 k v0 v1 (K .ret (cA [4] [.one (.l (.b true))] [])) (K (.exit 0) (cA [4] [.one (.l (.any))] [])) k v2⟩
theorem ay:Ct S f:=fun k=>c1 18 [] [(2,[0,1,5]),(100002,[4])] [h2 k] Tryz.func272 (all_cons ((h2 k).fit fun K r v0 v1 v2 h=>fm h (fun a m=>m v0 v1 a) fun _ _ v2=>some v2) all_nil)
end bC
namespace bz
def S:=so 231 [22] [4] .own [.V] [.B]
def h2 (k:Nat):Lh S.Y:=⟨2,⟨[.V,.I],[]⟩,fun K v0 v1=>l2 k v0 (K .ret (cA [2] [.one (.l (.b false))] [])) (K (.exit 0) (cA [2] [.one (.l (.any))] [])) k v1⟩
theorem ay:Ct S f:=fun k=>c1 26 [ce (bZ.ay k),ce (bC.ay k)] [(2,[0,3]),(100002,[2])] [h2 k] Tryz.func231 (all_cons ((h2 k).fit fun K r v0 v1 h=>fm h (fun a m=>m v0 a) fun _ v1=>some v1) all_nil)
end bz
namespace bu
def S:=so 295 [22,3,3] [25,22,4] .own [.V,.I,.I] [.l .own .rows,.l .own (.ints .i64),.B]
def h9 (k:Nat):Lh S.Y:=⟨9,⟨[.V,.I,.I,.l (.own 0),.I,.l (.own 1),.I],[.W,.V]⟩,fun K v0 v1 v2 v3 v4 v5 v6=>l9 k v0 v1 v2 v3 (fun p0=>K (.exit 2) (cA [0,1,2,6,7,8,9,10,11] [.one (.l (.val false (.ints .i64 v0))),.one (.l (.i .i64 v1)),.one (.l (.i .i64 v2)),.one (.l (.any)),.one (.l (.any)),.one (.l (.any)),.one (.l (.own 0)),.one (.l (.i .i64 v3)),.one (.l (.own 1))] [some (.row 0 0 (.rows true v5)),some (.row 0 0 (.ints .i64 p0))])) k v4 v6⟩
def h5 (k:Nat):Lh S.Y:=⟨5,⟨[.V,.I,.I,.l (.own 0),.I],[.W]⟩,fun K v0 v1 v2 v3 v4=>l5 k v0 v1 v2 (fun p0=>K (.exit 0) (cA [0,1,2,6,7,8,9] [.one (.l (.val false (.ints .i64 v0))),.one (.l (.i .i64 v1)),.one (.l (.i .i64 v2)),.one (.l (.any)),.one (.l (.any)),.one (.l (.any)),.one (.l (.own 0))] [some (.row 0 0 (.rows true p0))])) k v3 v4⟩
theorem ay:Ct S f:=fun k=>c1 73 [ce (aG.ay k),ce (bz.ay k)] [(9,[0,1,2,9,10,11,12]),(100009,[0,1,2,6,7,8,9,10,11]),(5,[0,1,2,9,10]),(100005,[0,1,2,6,7,8,9])] [h9 k,h5 k] Tryz.func295 (all_cons ((h5 k).fit fun K r v0 v1 v2 v3 v4 h=>fm h (fun a m=>m v0 v1 v2 a.1 a.2) fun _ _ _ v3 v4=>some (v3,v4)) (all_cons ((h9 k).fit fun K r v0 v1 v2 v3 v4 v5 v6 h=>fm h (fun a m=>m v0 v1 v2 v3 a.1 v5 a.2) fun _ _ _ _ v4 _ v6=>some (v4,v6)) all_nil))
end bu
namespace fC
def S:=so 218 [31,22] [33,4] .own [.agg .aZ mi,.V] [.agg .own iM,.B]
theorem ay:Ct S f:=fun k=>c0 45 [ce (dh.ay k),ce (bV.ay k),ce (bz.ay k),ce (bu.ay k)] Tryz.func218
end fC
namespace aW
def S:=so 144 [33] [4] .own [.agg .aZ iM] [.B]
def h5 (k:Nat):Lh S.Y:=⟨5,⟨[.l (.ptr 0 0),.l (.own 1),.I],[.box [.I,.I,.b,.b,.V,.V,.I,.I,.W,.V,.V,.I,.I,.I],.V]⟩,fun K v0 _ _ _ _ _ _ _ _ v9 _ _ _ _ _ eR=>l5 k v9 (fun p0=>K (.exit 0) (cA [2,3] [.one (.l (.any)),.one (.l (.own 0))] [some (.row 0 0 (.ints .i64 p0))])) k v0 eR⟩
theorem ay:Ct S f:=fun k=>c1 79 [ce (bV.ay k),ce (aG.ay k),ce (bz.ay k)] [(5,[1,3,4]),(100005,[2,3])] [h5 k] Tryz.func144 (all_cons ((h5 k).fit fun K r v0 v1 v2 v3 v4 v5 v6 v7 v8 v9 v10 v11 v12 fu fq eR h=>fm h (fun a m=>m a.1 v1 v2 v3 v4 v5 v6 v7 v8 v9 v10 v11 v12 fu fq a.2) fun v0 _ _ _ _ _ _ _ _ _ _ _ _ _ _ eR=>some (v0,eR)) all_nil)
end aW
namespace bK
def S:=so 232 [33] [3] .own [.agg .aZ iM] [.O]
def h2 (k:Nat):Lh S.Y:=⟨2,⟨[.l (.ptr 0 0),.I],[.box [.I,.I,.b,.b,.V,.V,.I,.I,.W,.V,.V,.I,.I,.I]]⟩,fun K v0 _ _ _ _ _ _ _ _ v9 _ _ _ _ _=>l2 k v9 (fun p0=>K .ret (cA [2] [.one (.l (.i .i64 p0))] [])) (K (.exit 0) (cA [2] [.one (.l (.any))] [])) k v0⟩
theorem ay:Ct S f:=fun k=>c1 19 [] [(2,[1,3]),(100002,[2])] [h2 k] Tryz.func232 (all_cons ((h2 k).fit fun K r v0 v1 v2 v3 v4 v5 v6 v7 v8 v9 v10 v11 v12 fu fq h=>fm h (fun a m=>m a v1 v2 v3 v4 v5 v6 v7 v8 v9 v10 v11 v12 fu fq) fun v0 _ _ _ _ _ _ _ _ _ _ _ _ _ _=>some v0) all_nil)
end bK
namespace ek
def S:=so 145 [33] [4] .own [.agg .aZ iM] [.B]
theorem ay:Ct S f:=fun k=>c0 22 [ce (bK.ay k)] Tryz.func145
end ek
namespace bA
def S:=so 319 [33] [33,4] .own [.agg .aZ iM] [.agg .own iM,.B]
def h6 (k:Nat):Lh S.Y:=⟨6,⟨[.l (.ptr 0 0),.l (.ptr 1 0),.l (.ptr 2 0),.I,.I],[.box [.I,.I,.b,.b,.V,.V,.I,.I,.W,.V,.V,.I,.I,.I],.box [.I,.I,.bc false,.bc false,.nil,.nil,.I,.I,.nil,.nil,.nil,.I,.I,.I],.box [.I,.I,.b,.b,.own 3,.own 4,.I,.I,.own 5,.own 6,.own 7,.I,.I,.I],.V,.V,.W,.V,.V]⟩,fun K v0 v1 v2 v3 v4 v5 v6 v7 v8 v9 v10 v11 v12 fu fq eR fc gu v20 v21 iL gL v24 jY jZ lM v28 oR v30 v31 pN oS oT pO kR v37 fA=>l6 k v8 fu (fun p0 p1 p2 p3=>K (.exit 0) (cA [1,2,3,4,5] [.one (.l (.eJ 0 0)),.one (.l (.eJ 1 0)),.one (.l (.any)),.one (.l (.eJ 2 0)),.one (.l (.i .i64 p0))] [some (.box 0 [.i .i64 v2,.i .i64 v3,.b v4,.b v5,.val false (.ints .i64 v6),.val false (.ints .i64 v7),.i .i64 v8,.i .i64 v9,.val false (.rows false v10),.val false (.ints .i64 v11),.val false (.ints .i64 v12),.i .i64 fu,.i .i64 fq,.i .i64 eR]),some (.box 0 [.i .i64 fc,.i .i64 gu,.b false,.b false,.nil,.nil,.i .i64 v20,.i .i64 v21,.nil,.nil,.nil,.i .i64 iL,.i .i64 gL,.i .i64 v24]),some (.box 0 [.i .i64 jY,.i .i64 jZ,.b lM,.b v28,.own 3,.own 4,.i .i64 oR,.i .i64 v30,.own 5,.own 6,.own 7,.i .i64 v31,.i .i64 pN,.i .i64 oS]),some (.row 0 0 (.ints .i64 oT)),some (.row 0 0 (.ints .i64 pO)),some (.row 0 0 (.rows true p1)),some (.row 0 0 (.ints .i64 p2)),some (.row 0 0 (.ints .i64 p3))])) k v0 v1 kR v37 fA⟩
theorem ay:Ct S f:=fun k=>c1 97 [ce (dk.ay k),ce (aW.ay k),ce (ek.ay k)] [(6,[1,2,4,5,6]),(100006,[1,2,3,4,5])] [h6 k] Tryz.func319 (all_cons ((h6 k).fit fun K r v0 v1 v2 v3 v4 v5 v6 v7 v8 v9 v10 v11 v12 fu fq eR fc gu v20 v21 iL gL v24 jY jZ lM v28 oR v30 v31 pN oS oT pO kR v37 fA h=>fm h (fun a m=>m a.1 a.2.1 v2 v3 v4 v5 v6 v7 v8 v9 v10 v11 v12 fu fq eR fc gu v20 v21 iL gL v24 jY jZ lM v28 oR v30 v31 pN oS oT pO (t2 a).1 (t3 a).1 (t4 a)) fun v0 v1 _ _ _ _ _ _ _ _ _ _ _ _ _ _ _ _ _ _ _ _ _ _ _ _ _ _ _ _ _ _ _ _ kR v37 fA=>some (v0,v1,kR,v37,fA)) all_nil)
end bA
namespace bj
def S:=so 146 [22] [22] .own [.V] [.l .own (.ints .i64)]
def h6 (k:Nat):Lh S.Y:=⟨6,⟨[.V,.l (.own 0),.I,.I],[.V]⟩,fun K v0 v1 v2 v3=>l6 k v0 v1 v3 (fun p0=>K (.exit 2) (cA [0,2,3,4,5] [.one (.l (.val false (.ints .i64 v0))),.one (.l (.any)),.one (.l (.own 0)),.one (.l (.i .i64 v1)),.one (.l (.i .i64 p0))] [some (.row 0 0 (.ints .i64 v3))])) k v2⟩
def h3 (k:Nat):Lh S.Y:=⟨3,⟨[.V,.l (.own 0),.I],[.V]⟩,fun K v0 v1 v2=>l3 k v0 (fun p0=>K (.exit 0) (cA [2,3] [.one (.l (.any)),.one (.l (.own 0))] [some (.row 0 0 (.ints .i64 p0))])) k v1 v2⟩
theorem ay:Ct S f:=fun k=>c1 47 [] [(6,[0,3,4,5]),(100006,[0,2,3,4,5]),(3,[0,3,4]),(100003,[2,3])] [h6 k,h3 k] Tryz.func146 (all_cons ((h3 k).fit fun K r v0 v1 v2 h=>fm h (fun a m=>m v0 a.1 a.2) fun _ v1 v2=>some (v1,v2)) (all_cons ((h6 k).fit fun K r v0 v1 v2 v3 h=>fm h (fun a m=>m v0 v1 a v3) fun _ _ v2 _=>some v2) all_nil))
end bj
namespace eB
def S:=so 233 [3] [3] .own [.I] [.O]
theorem ay:Ct S f:=fun k=>c0 8 [ce (bZ.ay k)] Tryz.func233
end eB
namespace dA
def S:=so 234 [3] [3] .own [.I] [.O]
theorem ay:Ct S f:=fun k=>c0 8 [ce (bZ.ay k)] Tryz.func234
end dA
namespace ky
def S:=so 340 [3] [4] .own [.I] [.B]
theorem ay:Ct S f:=fun k=>c0 6 [ce (aG.ay k),ce (eB.ay k)] Tryz.func340
end ky
namespace gP
def S:=so 303 [3,3] [4] .own [.I,.I] [.B]
theorem ay:Ct S f:=fun k=>c0 31 [ce (eB.ay k),ce (dA.ay k),ce (ky.ay k)] Tryz.func303
end gP
namespace bD
def S:=so 235 [22,3] [4] .own [.V,.I] [.B]
def h5 (k:Nat):Lh S.Y:=⟨5,⟨[.V,.I,.l (.own 0),.I],[.row false .cx]⟩,fun K v0 v1 v2 v3=>l5 k v0 v1 (fun p0=>K (.exit 0) (cA [4,5] [.one (.l (.any)),.one (.l (.own 0))] [some (.row 0 0 (.cx p0))])) k v2 v3⟩
theorem ay:Ct S f:=fun k=>c1 93 [ce (bZ.ay k),ce (be.ay k),ce (gP.ay k)] [(5,[0,1,5,6]),(100005,[4,5])] [h5 k] Tryz.func235 (all_cons ((h5 k).fit fun K r v0 v1 v2 v3 h=>fm h (fun a m=>m v0 v1 a.1 a.2) fun _ _ v2 v3=>some (v2,v3)) all_nil)
end bD
namespace jt
def S:=so 147 [31,3,3] [4] .own [.agg .aZ mi,.I,.I] [.B]
theorem ay:Ct S f:=fun k=>c0 46 [ce (bV.ay k),ce (bZ.ay k),ce (eB.ay k),ce (dA.ay k),ce (bD.ay k)] Tryz.func147
end jt
namespace bp
def S:=so 77 [33] [22] .own [.agg .aZ iM] [.l .own (.ints .i64)]
def h6 (k:Nat):Lh S.Y:=⟨6,⟨[.l (.ptr 0 0),.l (.own 1),.l (.own 2),.I],[.box [.I,.I,.b,.b,.V,.V,.I,.I,.W,.V,.V,.I,.I,.I],.V,.V]⟩,fun K v0 v1 v2 v3 v4 v5 v6 v7 v8 _ _ v11 _ _ _ eR fc=>l6 k v1 v2 v3 v4 v5 v6 v7 v8 v11 fc (fun p0=>K (.exit 0) (cA [2,3] [.one (.l (.any)),.one (.l (.own 0))] [some (.row 0 0 (.ints .i64 p0))])) k v0 eR⟩
theorem ay:Ct S f:=fun k=>c1 51 [ce (aW.ay k),ce (ek.ay k),ce (bj.ay k),ce (jt.ay k)] [(6,[1,3,4,5]),(100006,[2,3])] [h6 k] Tryz.func77 (all_cons ((h6 k).fit fun K r v0 v1 v2 v3 v4 v5 v6 v7 v8 v9 v10 v11 v12 fu fq eR fc h=>fm h (fun a m=>m a.1 v1 v2 v3 v4 v5 v6 v7 v8 v9 v10 v11 v12 fu fq a.2 fc) fun v0 _ _ _ _ _ _ _ _ _ _ _ _ _ _ eR _=>some (v0,eR)) all_nil)
end bp
namespace cK
def S:=so 274 [22,3] [22] .own [.V,.I] [.l .own (.ints .i64)]
def h3 (k:Nat):Lh S.Y:=⟨3,⟨[.V,.I,.l (.own 0),.I],[.V]⟩,fun K v0 v1 v2 v3=>l3 k v0 v1 (fun p0=>K (.exit 0) (cA [4,5] [.one (.l (.any)),.one (.l (.own 0))] [some (.row 0 0 (.ints .i64 p0))])) k v2 v3⟩
theorem ay:Ct S f:=fun k=>c1 28 [] [(3,[0,1,5,6]),(100003,[4,5])] [h3 k] Tryz.func274 (all_cons ((h3 k).fit fun K r v0 v1 v2 v3 h=>fm h (fun a m=>m v0 v1 a.1 a.2) fun _ _ v2 v3=>some (v2,v3)) all_nil)
end cK
namespace hJ
def S:=so 347 [31,3] [4] .own [.agg .aZ mi,.I] [.B]
theorem ay:Ct S f:=fun k=>c0 13 [ce (bV.ay k),ce (bD.ay k)] Tryz.func347
end hJ
namespace ju
def S:=so 320 [33,3] [33,4] .own [.agg .aZ iM,.I] [.agg .own iM,.B]
theorem ay:Ct S f:=fun k=>c0 54 [ce (bp.ay k),ce (dk.ay k),ce (bC.ay k),ce (cK.ay k),ce (hJ.ay k)] Tryz.func320
end ju
namespace ef
def S:=so 269 [33,3] [33,4] .own [.agg .aZ iM,.I] [.agg .own iM,.B]
theorem ay:Ct S f:=fun k=>c0 17 [ce (bA.ay k),ce (ju.ay k)] Tryz.func269
end ef
namespace bU
def S:=so 219 [33,22] [33,3] .own [.agg .aZ iM,.V] [.agg .own iM,.O]
def h3 (k:Nat):Lh S.Y:=⟨3,⟨[.V,.l (.ptr 0 0),.l (.ptr 1 0),.I],[.box [.I,.I,.bc false,.bc false,.nil,.nil,.I,.I,.nil,.nil,.nil,.I,.I,.I],.box [.I,.I,.b,.b,.own 2,.own 3,.I,.I,.own 4,.own 5,.own 6,.I,.I,.I],.V,.V,.W,.V,.V]⟩,fun K v0 v1 v2 v3 v6 v7 v8 v9 v10 v11 v12 fu fq eR fc gu kx jI v20 v21 iL gL v24=>l3 k v0 (fun p0 p1 p2 p3 p4 p5 p6 p7 p8 p9 I7 I8 I9 I_ MN=>K .ret (cA [1,4,5,6] [.one (.l (.val false (.ints .i64 v0))),.one (.l (.eJ 0 0)),.one (.l (.i .i64 p0)),.one (.l (.eJ 6 0))] [some (.box 0 [.i .i64 p1,.i .i64 p2,.b p3,.b p4,.own 1,.own 2,.i .i64 p5,.i .i64 p6,.own 3,.own 4,.own 5,.i .i64 p7,.i .i64 p8,.i .i64 p9]),some (.row 0 0 (.ints .i64 I7)),some (.row 0 0 (.ints .i64 I8)),some (.row 0 0 (.rows true I9)),some (.row 0 0 (.ints .i64 I_)),some (.row 0 0 (.ints .i64 MN)),some (.box 0 [.i .i64 p1,.i .i64 p2,.b p3,.b p4,.own 1,.own 2,.i .i64 p5,.i .i64 p6,.own 3,.own 4,.own 5,.i .i64 p7,.i .i64 p8,.i .i64 p9])])) (fun p0 p1 p2 p3 p4 p5 p6 p7 p8 p9 I7 I8 I9 I_=>K (.exit 0) (cA [1,4,5,6] [.one (.l (.val false (.ints .i64 v0))),.one (.l (.eJ 0 0)),.one (.l (.any)),.one (.l (.eJ 1 0))] [some (.box 0 [.i .i64 v2,.i .i64 v3,.b false,.b false,.nil,.nil,.i .i64 v6,.i .i64 v7,.nil,.nil,.nil,.i .i64 v8,.i .i64 v9,.i .i64 v10]),some (.box 0 [.i .i64 p0,.i .i64 p1,.b p2,.b p3,.own 2,.own 3,.i .i64 p4,.i .i64 p5,.own 4,.own 5,.own 6,.i .i64 p6,.i .i64 p7,.i .i64 p8]),some (.row 0 0 (.ints .i64 p9)),some (.row 0 0 (.ints .i64 I7)),some (.row 0 0 (.rows true I8)),some (.row 0 0 (.ints .i64 I9)),some (.row 0 0 (.ints .i64 I_))])) k v1 v11 v12 fu fq eR fc gu kx jI v20 v21 iL gL v24⟩
theorem ay:Ct S f:=fun k=>c1 35 [ce (dk.ay k),ce (ef.ay k)] [(3,[1,4,6,7]),(100003,[1,4,5,6])] [h3 k] Tryz.func219 (all_cons ((h3 k).fit fun K r v0 v1 v2 v3 v6 v7 v8 v9 v10 v11 v12 fu fq eR fc gu kx jI v20 v21 iL gL v24 h=>fm h (fun a m=>m v0 a.1 v2 v3 v6 v7 v8 v9 v10 a.2.1 (t2 a).1 (t3 a).1 (t4 a).1 (t5 a).1 (t6 a).1 (t7 a).1 (t8 a).1 (t9 a).1 (t9 a.2).1 (t9 (t2 a)).1 (t9 (t3 a)).1 (t9 (t4 a)).1 (t9 (t5 a))) fun _ v1 _ _ _ _ _ _ _ v11 v12 fu fq eR fc gu kx jI v20 v21 iL gL v24=>some (v1,v11,v12,fu,fq,eR,fc,gu,kx,jI,v20,v21,iL,gL,v24)) all_nil)
end bU
namespace fX
def S:=so 124 [35] [4] .own [.agg .aZ fF] [.B]
theorem ay:Ct S f:=fun k=>c0 86 [ce (bV.ay k),ce (cJ.ay k),ce (aU.ay k),ce (fC.ay k),ce (bU.ay k)] Tryz.func124
end fX
namespace bW
def S:Sp:=⟨45,⟨[35,35,4],[35,4],[.oU,.Bn,.oU],.own⟩,[.agg .aZ fF,.agg .own fF,.l .aZ .bool],[.agg .own fF,.B]⟩
theorem ay:Ct S f:=fun k=>c0 23 [ce (bq.ay k),ce (fX.ay k)] Tryz.func45
end bW
namespace cX
def S:=so 70 [35,3] [35,4] .own [.agg .aZ fF,.I] [.agg .own fF,.B]
theorem ay:Ct S f:=fun k=>c0 23 [ce (bq.ay k),ce (bW.ay k)] Tryz.func70
end cX
namespace gw
def S:=so 226 [3,3] [3] .own [.I,.I] [.O]
theorem ay:Ct S f:=fun k=>c0 15 [ce (aG.ay k)] Tryz.func226
end gw
namespace dK
def S:=so 137 [22] [3] .own [.V] [.O]
def h3 (k:Nat):Lh S.Y:=⟨3,⟨[.V,.I,.I],[]⟩,fun K v0 v1 v2=>l3 k v0 (fun p0=>K (.exit 0) (cA [2,3] [.one (.l (.any)),.one (.l (.i .i64 p0))] [])) k v1 v2⟩
theorem ay:Ct S f:=fun k=>c1 22 [ce (gw.ay k)] [(3,[0,3,4]),(100003,[2,3])] [h3 k] Tryz.func137 (all_cons ((h3 k).fit fun K r v0 v1 v2 h=>fm h (fun a m=>m v0 a.1 a.2) fun _ v1 v2=>some (v1,v2)) all_nil)
end dK
namespace cu
def S:=so 71 [3,3,3] [3] .own [.I,.I,.I] [.O]
theorem ay:Ct S f:=fun k=>c0 12 [ce (dK.ay k)] Tryz.func71
end cu
namespace iV
def S:=so 201 [33] [4] .own [.agg .aZ iM] [.B]
theorem ay:Ct S f:=fun k=>c0 9 [ce (aW.ay k),ce (ek.ay k)] Tryz.func201
end iV
namespace iW
def S:=so 348 [3] [3] .own [.I] [.O]
theorem ay:Ct S f:=fun k=>c0 17 [ce (dA.ay k)] Tryz.func348
end iW
namespace da
def S:=so 322 [22] [3] .own [.V] [.O]
def h3 (k:Nat):Lh S.Y:=⟨3,⟨[.V,.I,.I],[]⟩,fun K v0 v1 v2=>l3 k v0 (fun p0=>K (.exit 0) (cA [2,3] [.one (.l (.any)),.one (.l (.i .i64 p0))] [])) k v1 v2⟩
theorem ay:Ct S f:=fun k=>c1 19 [ce (iW.ay k)] [(3,[0,3,4]),(100003,[2,3])] [h3 k] Tryz.func322 (all_cons ((h3 k).fit fun K r v0 v1 v2 h=>fm h (fun a m=>m v0 a.1 a.2) fun _ v1 v2=>some (v1,v2)) all_nil)
end da
namespace bG
def S:=so 280 [33] [22] .own [.agg .aZ iM] [.l .own (.ints .i64)]
def h3 (k:Nat):Lh S.Y:=⟨3,⟨[.l (.ptr 0 0),.l (.own 1),.I],[.box [.I,.I,.b,.b,.V,.V,.I,.I,.W,.V,.V,.I,.I,.I],.V]⟩,fun K v0 _ _ _ _ _ _ _ _ v9 _ _ _ _ _ eR=>l3 k v9 (fun p0=>K (.exit 0) (cA [2,3] [.one (.l (.any)),.one (.l (.own 0))] [some (.row 0 0 (.ints .i64 p0))])) k v0 eR⟩
theorem ay:Ct S f:=fun k=>c1 23 [ce (da.ay k)] [(3,[1,3,4]),(100003,[2,3])] [h3 k] Tryz.func280 (all_cons ((h3 k).fit fun K r v0 v1 v2 v3 v4 v5 v6 v7 v8 v9 v10 v11 v12 fu fq eR h=>fm h (fun a m=>m a.1 v1 v2 v3 v4 v5 v6 v7 v8 v9 v10 v11 v12 fu fq a.2) fun v0 _ _ _ _ _ _ _ _ _ _ _ _ _ _ eR=>some (v0,eR)) all_nil)
end bG
namespace jv
def S:=so 281 [33] [3] .own [.agg .aZ iM] [.O]
theorem ay:Ct S f:=fun k=>c0 8 [ce (aW.ay k),ce (bK.ay k)] Tryz.func281
end jv
namespace aK
def S:=so 202 [33] [22] .own [.agg .aZ iM] [.l .own (.ints .i64)]
def Ra (k:Nat):Lh S.Y:=⟨13,⟨[.l (.ptr 0 0),.l (.own 1),.l (.own 2),.I,.I,.I,.I],[.box [.I,.I,.b,.b,.V,.V,.I,.I,.W,.V,.V,.I,.I,.I],.V,.V]⟩,fun K v0 v1 v2 v3 v4 v5 v6 v7 v8 v9 v10 v11 v12 fu fq eR fc gu kx jI=>PZ k jI (fun p0=>K (.exit 3) (cA [1,2,3,4,5,6,7] [.one (.l (.eJ 0 0)),.one (.l (.any)),.one (.l (.own 1)),.one (.l (.own 2)),.one (.l (.i .i64 v0)),.one (.l (.i .i64 v1)),.one (.l (.i .i64 p0))] [some (.box 0 [.i .i64 v4,.i .i64 v5,.b v6,.b v7,.val false (.ints .i64 v8),.val false (.ints .i64 v9),.i .i64 v10,.i .i64 v11,.val false (.rows false v12),.val false (.ints .i64 fu),.val false (.ints .i64 fq),.i .i64 eR,.i .i64 fc,.i .i64 gu]),some (.row 0 0 (.ints .i64 kx)),some (.row 0 0 (.ints .i64 jI))])) k v2 v3⟩
def h5 (k:Nat):Lh S.Y:=⟨5,⟨[.l (.ptr 0 0),.l (.own 1),.l (.own 2),.I,.I],[.box [.I,.I,.b,.b,.V,.V,.I,.I,.W,.V,.V,.I,.I,.I],.V,.V]⟩,fun K v0 v1 v2 v3 v4 v5 v6 v7 v8 v9 v10 v11 v12 fu fq eR fc gu=>l5 k v0 v2 v3 v4 v5 v6 v7 v8 v9 v10 v11 v12 fu fq eR gu (fun p0=>K (.exit 0) (cA [2,3] [.one (.l (.any)),.one (.l (.own 0))] [some (.row 0 0 (.ints .i64 p0))])) k v1 fc⟩
theorem ay:Ct S f:=fun k=>c1 59 [ce (aW.ay k),ce (bG.ay k),ce (jv.ay k)] [(13,[1,3,4,5,6,7,8]),(100013,[1,2,3,4,5,6,7]),(5,[1,3,4,5,6]),(100005,[2,3])] [Ra k,h5 k] Tryz.func202 (all_cons ((h5 k).fit fun K r v0 v1 v2 v3 v4 v5 v6 v7 v8 v9 v10 v11 v12 fu fq eR fc gu h=>fm h (fun a m=>m v0 a.1 v2 v3 v4 v5 v6 v7 v8 v9 v10 v11 v12 fu fq eR a.2 gu) fun _ v1 _ _ _ _ _ _ _ _ _ _ _ _ _ _ fc _=>some (v1,fc)) (all_cons ((Ra k).fit fun K r v0 v1 v2 v3 v4 v5 v6 v7 v8 v9 v10 v11 v12 fu fq eR fc gu kx jI h=>fm h (fun a m=>m v0 v1 a.1 a.2 v4 v5 v6 v7 v8 v9 v10 v11 v12 fu fq eR fc gu kx jI) fun _ _ v2 v3 _ _ _ _ _ _ _ _ _ _ _ _ _ _ _ _=>some (v2,v3)) all_nil))
end aK
namespace eL
def S:=so 113 [35] [35,4] .own [.agg .aZ fF] [.agg .own fF,.B]
theorem ay:Ct S f:=fun k=>c0 36 [ce (bq.ay k),ce (bW.ay k),ce (iV.ay k),ce (aK.ay k)] Tryz.func113
end eL
namespace hO
def S:=so 354 [3,3,3,3] [4] .own [.I,.I,.I,.I] [.B]
theorem ay:Ct S f:=fun k=>c0 23 [ce (cu.ay k),ce (aG.ay k)] Tryz.func354
end hO
namespace bO
def S:=so 336 [22,22,22] [4] .own [.V,.V,.V] [.B]
def h4 (k:Nat):Lh S.Y:=⟨4,⟨[.V,.V,.V,.I],[]⟩,fun K v0 v1 v2 v3=>l4 k v0 v1 v2 (K .ret (cA [6] [.one (.l (.b false))] [])) (K (.exit 0) (cA [6] [.one (.l (.any))] [])) k v3⟩
theorem ay:Ct S f:=fun k=>c1 47 [ce (aG.ay k),ce (hO.ay k)] [(4,[0,1,2,7]),(100004,[6])] [h4 k] Tryz.func336 (all_cons ((h4 k).fit fun K r v0 v1 v2 v3 h=>fm h (fun a m=>m v0 v1 v2 a) fun _ _ _ v3=>some v3) all_nil)
end bO
namespace bL
def S:=so 337 [22,3] [22] .own [.V,.I] [.l .own (.ints .i64)]
def h3 (k:Nat):Lh S.Y:=⟨3,⟨[.I,.l (.own 0),.I],[.V]⟩,fun K v0 v1 v2=>l3 k v0 (fun p0=>K (.exit 0) (cA [4,5] [.one (.l (.any)),.one (.l (.own 0))] [some (.row 0 0 (.ints .i64 p0))])) k v1 v2⟩
theorem ay:Ct S f:=fun k=>c1 42 [ce (dK.ay k),ce (gw.ay k)] [(3,[1,5,6]),(100003,[4,5])] [h3 k] Tryz.func337 (all_cons ((h3 k).fit fun K r v0 v1 v2 h=>fm h (fun a m=>m v0 a.1 a.2) fun _ v1 v2=>some (v1,v2)) all_nil)
end bL
namespace cL
def S:=so 355 [22] [22] .own [.V] [.l .own (.ints .i64)]
def h3 (k:Nat):Lh S.Y:=⟨3,⟨[.V,.l (.own 0),.I],[.V]⟩,fun K v0 v1 v2=>l3 k v0 (fun p0=>K (.exit 0) (cA [2,3] [.one (.l (.any)),.one (.l (.own 0))] [some (.row 0 0 (.ints .i64 p0))])) k v1 v2⟩
theorem ay:Ct S f:=fun k=>c1 19 [ce (bC.ay k)] [(3,[0,3,4]),(100003,[2,3])] [h3 k] Tryz.func355 (all_cons ((h3 k).fit fun K r v0 v1 v2 h=>fm h (fun a m=>m v0 a.1 a.2) fun _ v1 v2=>some (v1,v2)) all_nil)
end cL
namespace hR
def S:=so 338 [] [22] .own [] [.l .own (.ints .i64)]
theorem ay:Ct S f:=fun k=>c0 2 [ce (cL.ay k)] Tryz.func338
end hR
namespace bP
def S:=so 339 [22] [3] .own [.V] [.O]
def h3 (k:Nat):Lh S.Y:=⟨3,⟨[.V,.I,.I],[]⟩,fun K v0 v1 v2=>l3 k v0 (fun p0=>K (.exit 0) (cA [2,3] [.one (.l (.any)),.one (.l (.i .i64 p0))] [])) k v1 v2⟩
theorem ay:Ct S f:=fun k=>c1 20 [ce (gw.ay k)] [(3,[0,3,4]),(100003,[2,3])] [h3 k] Tryz.func339 (all_cons ((h3 k).fit fun K r v0 v1 v2 h=>fm h (fun a m=>m v0 a.1 a.2) fun _ v1 v2=>some (v1,v2)) all_nil)
end bP
namespace gx
def S:=so 301 [22,22,22] [22,4] .own [.V,.V,.V] [.l .own (.ints .i64),.B]
theorem ay:Ct S f:=fun k=>c0 18 [ce (bO.ay k),ce (bL.ay k),ce (hR.ay k),ce (bP.ay k)] Tryz.func301
end gx
namespace h_
def S:=so 302 [35] [4] .own [.agg .aZ fF] [.B]
theorem ay:Ct S f:=fun k=>c0 15 [] Tryz.func302
end h_
namespace ia
def S:=so 223 [35,22,22] [35,4] .own [.agg .aZ fF,.V,.V] [.agg .own fF,.B]
theorem ay:Ct S f:=fun k=>c0 48 [ce (bq.ay k),ce (bW.ay k),ce (fC.ay k),ce (gx.ay k),ce (h_.ay k)] Tryz.func223
end ia
namespace bm
def S:=so 132 [35,3] [35] .own [.agg .aZ fF,.I] [.agg .own fF]
def h4 (k:Nat):Lh S.Y:=⟨4,⟨[.I,.l (.ptr 0 0),.l (.ptr 1 0),.l (.own 2),.l (.own 3),.I],[.box [.I,.I,.b,.b,.V,.V,.I,.I,.V,.b,.V,.I,.I,.b,.b,.V,.V,.I,.I,.W,.V,.V,.I,.I,.I,.V,.W],.box [.I,.I,.bc false,.bc false,.nil,.nil,.I,.I,.nil,.bc false,.nil,.I,.I,.bc false,.bc false,.nil,.nil,.I,.I,.nil,.nil,.nil,.I,.I,.I,.nil,.nil],.V,.V]⟩,fun K v0 v1 v2 v3 v4 v5 v6 v7 v8 v9 v10 v11 v12 fu fq eR fc gu kx jI v20 v21 iL gL v24 jY jZ lM v28 oR v30 oS oT kR v37 v40 sY sZ s_ ta oe v46=>l4 k v0 (fun p0 p1 p2 p3 p4 p5 p6 p7 p8 p9 I7 I8 I9 I_ MN Rb Rc Re Rf Rg Rh Ri Rj Rk Rm Rn Ro Rp Rq=>K (.exit 0) (cA [2,4,5,6] [.one (.l (.eJ 0 0)),.one (.l (.eJ 1 0)),.one (.l (.own 2)),.one (.l (.own 3))] [some (.box 0 [.i .i64 p0,.i .i64 p1,.b p2,.b p3,.val false (.ints .i64 p4),.val false (.ints .i64 p5),.i .i64 p6,.i .i64 p7,.val false (.ints .i64 p8),.b p9,.val false (.ints .i64 I7),.i .i64 I8,.i .i64 I9,.b I_,.b MN,.val false (.ints .i64 Rb),.val false (.ints .i64 Rc),.i .i64 Re,.i .i64 Rf,.val false (.rows false Rg),.val false (.ints .i64 Rh),.val false (.ints .i64 Ri),.i .i64 Rj,.i .i64 Rk,.i .i64 Rm,.val false (.ints .i64 Rn),.val false (.rows false Ro)]),some (.box 0 [.i .i64 oR,.i .i64 v30,.b false,.b false,.nil,.nil,.i .i64 oS,.i .i64 oT,.nil,.b false,.nil,.i .i64 kR,.i .i64 v37,.b false,.b false,.nil,.nil,.i .i64 v40,.i .i64 sY,.nil,.nil,.nil,.i .i64 sZ,.i .i64 s_,.i .i64 ta,.nil,.nil]),some (.row 0 0 (.ints .i64 Rp)),some (.row 0 0 (.ints .i64 Rq))])) k v1 v2 v3 v4 v5 v6 v7 v8 v9 v10 v11 v12 fu fq eR fc gu kx jI v20 v21 iL gL v24 jY jZ lM v28 oe v46⟩
theorem ay:Ct S f:=fun k=>c1 44 [ce (cX.ay k),ce (cu.ay k),ce (ia.ay k)] [(4,[1,2,4,5,6,7]),(100004,[2,4,5,6]),(200004,[2])] [h4 k] Tryz.func132 (all_cons ((h4 k).fit fun K r v0 v1 v2 v3 v4 v5 v6 v7 v8 v9 v10 v11 v12 fu fq eR fc gu kx jI v20 v21 iL gL v24 jY jZ lM v28 oR v30 oS oT kR v37 v40 sY sZ s_ ta oe v46 h=>fm h (fun a m=>m v0 a.1 a.2.1 (t2 a).1 (t3 a).1 (t4 a).1 (t5 a).1 (t6 a).1 (t7 a).1 (t8 a).1 (t9 a).1 (t9 a.2).1 (t9 (t2 a)).1 (t9 (t3 a)).1 (t9 (t4 a)).1 (t9 (t5 a)).1 (t9 (t6 a)).1 (t9 (t7 a)).1 (t9 (t8 a)).1 (t9 (t9 a)).1 (t9 (t9 a.2)).1 (t9 (t9 (t2 a))).1 (t9 (t9 (t3 a))).1 (t9 (t9 (t4 a))).1 (t9 (t9 (t5 a))).1 (t9 (t9 (t6 a))).1 (t9 (t9 (t7 a))).1 (t9 (t9 (t8 a))).1 (t9 (t9 (t9 a))).1 oR v30 oS oT kR v37 v40 sY sZ s_ ta (t9 (t9 (t9 a.2))).1 (t9 (t9 (t9 (t2 a))))) fun _ v1 v2 v3 v4 v5 v6 v7 v8 v9 v10 v11 v12 fu fq eR fc gu kx jI v20 v21 iL gL v24 jY jZ lM v28 _ _ _ _ _ _ _ _ _ _ _ oe v46=>some (v1,v2,v3,v4,v5,v6,v7,v8,v9,v10,v11,v12,fu,fq,eR,fc,gu,kx,jI,v20,v21,iL,gL,v24,jY,jZ,lM,v28,oe,v46)) all_nil)
end bm
namespace fD
def S:=so 191 [35,3] [35,4] .own [.agg .aZ fF,.I] [.agg .own fF,.B]
theorem ay:Ct S f:=fun k=>c0 36 [ce (bq.ay k),ce (bW.ay k),ce (ef.ay k)] Tryz.func191
end fD
namespace ib
def S:=so 107 [35,3] [35,4] .own [.agg .aZ fF,.I] [.agg .own fF,.B]
theorem ay:Ct S f:=fun k=>c0 16 [ce (bq.ay k),ce (bZ.ay k),ce (fD.ay k)] Tryz.func107
end ib
namespace f_
def S:=so 112 [35] [35,4] .own [.agg .aZ fF] [.agg .own fF,.B]
theorem ay:Ct S f:=fun k=>c0 8 [ce (fD.ay k)] Tryz.func112
end f_
namespace ic
def S:Sp:=⟨133,⟨[84,35],[35],[.io,.oU],.own⟩,[.ptr ji,.agg .aZ fF],[.agg .own fF,.ptr ji]⟩
theorem ay:Ct S f:=fun k=>c0 36 [ce (ao.ay k),ce (aI.ay k),ce (bp.ay k),ce (ib.ay k),ce (f_.ay k)] Tryz.func133
end ic
namespace aT
def S:Sp:=⟨66,⟨[84],[35],[.io],.own⟩,[.ptr ji],[.agg .own fF,.ptr ji]⟩
def Mh (k:Nat):Lh S.Y:=⟨10,⟨[.l (.ptr 0 0),.l (.ptr 1 0),.l (.ptr 2 0),.I,.l (.ptr 0 0)],[.box [.val true false (.ints .u8),.I,.I],.box [.I,.I,.bc false,.bc false,.nil,.nil,.I,.I,.nil,.bc false,.nil,.I,.I,.bc false,.bc false,.nil,.nil,.I,.I,.nil,.nil,.nil,.I,.I,.I,.nil,.nil],.box [.I,.I,.b,.b,.own 3,.own 4,.I,.I,.own 5,.b,.own 6,.I,.I,.b,.b,.own 7,.own 8,.I,.I,.own 9,.own 10,.own 11,.I,.I,.I,.own 12,.own 13],.V,.V,.V,.V,.V,.V,.W,.V,.V,.V,.W]⟩,fun K v0 v1 v2 v3 v4 v5 v8 v9 v11 v12 eR fc gu kx jI v20 v21 iL gL v24 jY jZ lM v28 oR v30 v31 pN oS oT pO kR v37 fA ld v40 sY sZ s_ ta oe v46=>l10 k (fun p0 p1 p2 p3 p4 p5 p6 p7 p8 p9 I7 I8 I9 I_ MN Rb Rc Re Rf Rg Rh Ri Rj Rk Rm Rn Ro Rp Rq Wd=>K (.exit 0) (cA [0,2,4,50] [.one (.l (.eJ 0 0)),.one (.l (.eJ 1 0)),.one (.l (.eJ 2 0)),.one (.l (.eJ 0 0))] [some (.box 0 [.val true (.ints .u8 p0),.i .i64 p1,.i .i64 p2]),some (.box 0 [.i .i64 v4,.i .i64 v5,.b false,.b false,.nil,.nil,.i .i64 v8,.i .i64 v9,.nil,.b false,.nil,.i .i64 v11,.i .i64 v12,.b false,.b false,.nil,.nil,.i .i64 eR,.i .i64 fc,.nil,.nil,.nil,.i .i64 gu,.i .i64 kx,.i .i64 jI,.nil,.nil]),some (.box 0 [.i .i64 p3,.i .i64 p4,.b p5,.b p6,.own 3,.own 4,.i .i64 p7,.i .i64 p8,.own 5,.b p9,.own 6,.i .i64 I7,.i .i64 I8,.b I9,.b I_,.own 7,.own 8,.i .i64 MN,.i .i64 Rb,.own 9,.own 10,.own 11,.i .i64 Rc,.i .i64 Re,.i .i64 Rf,.own 12,.own 13]),some (.row 0 0 (.ints .i64 Rg)),some (.row 0 0 (.ints .i64 Rh)),some (.row 0 0 (.ints .i64 Ri)),some (.row 0 0 (.ints .i64 Rj)),some (.row 0 0 (.ints .i64 Rk)),some (.row 0 0 (.ints .i64 Rm)),some (.row 0 0 (.rows true Rn)),some (.row 0 0 (.ints .i64 Ro)),some (.row 0 0 (.ints .i64 Rp)),some (.row 0 0 (.ints .i64 Rq)),some (.row 0 0 (.rows true Wd))])) k v0 v1 v2 v3 v20 v21 iL gL v24 jY jZ lM v28 oR v30 v31 pN oS oT pO kR v37 fA ld v40 sY sZ s_ ta oe v46⟩
theorem ay:Ct S f:=fun k=>c1 50 [ce (ao.ay k),ce (ed.ay k),ce (di.ay k),ce (cX.ay k),ce (cu.ay k),ce (aI.ay k),ce (eL.ay k),ce (bm.ay k),ce (ic.ay k)] [(10,[0,2,4,6,50]),(100010,[0,2,4,50])] [Mh k] Tryz.func66 (all_cons ((Mh k).fit fun K r v0 v1 v2 v3 v4 v5 v8 v9 v11 v12 eR fc gu kx jI v20 v21 iL gL v24 jY jZ lM v28 oR v30 v31 pN oS oT pO kR v37 fA ld v40 sY sZ s_ ta oe v46 h=>fm h (fun a m=>m a.1 a.2.1 (t2 a).1 (t3 a).1 v4 v5 v8 v9 v11 v12 eR fc gu kx jI (t4 a).1 (t5 a).1 (t6 a).1 (t7 a).1 (t8 a).1 (t9 a).1 (t9 a.2).1 (t9 (t2 a)).1 (t9 (t3 a)).1 (t9 (t4 a)).1 (t9 (t5 a)).1 (t9 (t6 a)).1 (t9 (t7 a)).1 (t9 (t8 a)).1 (t9 (t9 a)).1 (t9 (t9 a.2)).1 (t9 (t9 (t2 a))).1 (t9 (t9 (t3 a))).1 (t9 (t9 (t4 a))).1 (t9 (t9 (t5 a))).1 (t9 (t9 (t6 a))).1 (t9 (t9 (t7 a))).1 (t9 (t9 (t8 a))).1 (t9 (t9 (t9 a))).1 (t9 (t9 (t9 a.2))).1 (t9 (t9 (t9 (t2 a)))).1 (t9 (t9 (t9 (t3 a))))) fun v0 v1 v2 v3 _ _ _ _ _ _ _ _ _ _ _ v20 v21 iL gL v24 jY jZ lM v28 oR v30 v31 pN oS oT pO kR v37 fA ld v40 sY sZ s_ ta oe v46=>some (v0,v1,v2,v3,v20,v21,iL,gL,v24,jY,jZ,lM,v28,oR,v30,v31,pN,oS,oT,pO,kR,v37,fA,ld,v40,sY,sZ,s_,ta,oe,v46)) all_nil)
end aT
namespace eX
def S:Sp:=⟨16,⟨[42],[35,3],[.eb],.own⟩,[.l .eb (.ints .u8)],[.agg .own fF,.O]⟩
theorem ay:Ct S f:=fun k=>c0 13 [ce (bw.ay k),ce (aT.ay k),ce (ao.ay k)] Tryz.func16
end eX
namespace ga
def S:=so 17 [35,3] [35,4] .own [.agg .aZ fF,.I] [.agg .own fF,.B]
theorem ay:Ct S f:=fun k=>c0 32 [ce (aD.ay k),ce (au.ay k)] Tryz.func17
end ga
namespace aO
def S:Sp:=⟨18,⟨[42],[35,22,22],[.eb],.own⟩,[.l .eb (.ints .u8)],[.agg .own fF,.l .own (.ints .i64),.l .own (.ints .i64)]⟩
def h6 (k:Nat):Lh S.Y:=⟨6,⟨[.l (.ptr 0 0),.l (.ptr 1 0),.l (.ptr 2 0),.l (.own 14),.l (.own 15),.I],[.box [.I,.I,.bc false,.bc false,.nil,.nil,.I,.I,.nil,.bc false,.nil,.I,.I,.bc false,.bc false,.nil,.nil,.I,.I,.nil,.nil,.nil,.I,.I,.I,.nil,.nil],.box [.val true false (.ints .u8),.I,.I],.box [.I,.I,.b,.b,.own 3,.own 4,.I,.I,.own 5,.b,.own 6,.I,.I,.b,.b,.own 7,.own 8,.I,.I,.own 9,.own 10,.own 11,.I,.I,.I,.own 12,.own 13],.V,.V,.V,.V,.V,.V,.W,.V,.V,.V,.W,.V,.V]⟩,fun K v0 v1 v2 v5 v6 v8 v9 v12 fu fq eR fc gu kx jI v20 v21 iL gL v24 jY jZ lM v28 oR v30 v31 pN oS oT pO kR v37 fA ld v40 sY sZ s_ ta oe v46 Gc Gd=>l6 k (fun p0 p1 p2 p3 p4 p5 p6 p7 p8 p9 I7 I8 I9 I_ MN Rb Rc Re Rf Rg Rh Ri Rj Rk Rm Rn Ro Rp Rq=>K (.exit 0) (cA [2,3,4,5,6,8,9] [.one (.l (.eJ 0 0)),.one (.l (.any)),.one (.l (.any)),.one (.l (.eJ 1 0)),.one (.l (.eJ 2 0)),.one (.l (.own 14)),.one (.l (.own 15))] [some (.box 0 [.i .i64 v1,.i .i64 v2,.b false,.b false,.nil,.nil,.i .i64 v5,.i .i64 v6,.nil,.b false,.nil,.i .i64 v8,.i .i64 v9,.b false,.b false,.nil,.nil,.i .i64 v12,.i .i64 fu,.nil,.nil,.nil,.i .i64 fq,.i .i64 eR,.i .i64 fc,.nil,.nil]),some (.box 0 [.val true (.ints .u8 gu),.i .i64 kx,.i .i64 jI]),some (.box 0 [.i .i64 p0,.i .i64 p1,.b p2,.b p3,.own 3,.own 4,.i .i64 p4,.i .i64 p5,.own 5,.b p6,.own 6,.i .i64 p7,.i .i64 p8,.b p9,.b I7,.own 7,.own 8,.i .i64 I8,.i .i64 I9,.own 9,.own 10,.own 11,.i .i64 I_,.i .i64 MN,.i .i64 Rb,.own 12,.own 13]),some (.row 0 0 (.ints .i64 Rc)),some (.row 0 0 (.ints .i64 Re)),some (.row 0 0 (.ints .i64 Rf)),some (.row 0 0 (.ints .i64 Rg)),some (.row 0 0 (.ints .i64 Rh)),some (.row 0 0 (.ints .i64 Ri)),some (.row 0 0 (.rows true Rj)),some (.row 0 0 (.ints .i64 Rk)),some (.row 0 0 (.ints .i64 Rm)),some (.row 0 0 (.ints .i64 Rn)),some (.row 0 0 (.rows true Ro)),some (.row 0 0 (.ints .i64 Rp)),some (.row 0 0 (.ints .i64 Rq))])) k v0 v20 v21 iL gL v24 jY jZ lM v28 oR v30 v31 pN oS oT pO kR v37 fA ld v40 sY sZ s_ ta oe v46 Gc Gd⟩
theorem ay:Ct S f:=fun k=>c1 55 [ce (bw.ay k),ce (ed.ay k),ce (di.ay k),ce (cX.ay k),ce (cu.ay k),ce (aI.ay k),ce (cv.ay k)] [(6,[2,5,6,8,9,10]),(100006,[2,3,4,5,6,8,9])] [h6 k] Tryz.func18 (all_cons ((h6 k).fit fun K r v0 v1 v2 v5 v6 v8 v9 v12 fu fq eR fc gu kx jI v20 v21 iL gL v24 jY jZ lM v28 oR v30 v31 pN oS oT pO kR v37 fA ld v40 sY sZ s_ ta oe v46 Gc Gd h=>fm h (fun a m=>m a.1 v1 v2 v5 v6 v8 v9 v12 fu fq eR fc gu kx jI a.2.1 (t2 a).1 (t3 a).1 (t4 a).1 (t5 a).1 (t6 a).1 (t7 a).1 (t8 a).1 (t9 a).1 (t9 a.2).1 (t9 (t2 a)).1 (t9 (t3 a)).1 (t9 (t4 a)).1 (t9 (t5 a)).1 (t9 (t6 a)).1 (t9 (t7 a)).1 (t9 (t8 a)).1 (t9 (t9 a)).1 (t9 (t9 a.2)).1 (t9 (t9 (t2 a))).1 (t9 (t9 (t3 a))).1 (t9 (t9 (t4 a))).1 (t9 (t9 (t5 a))).1 (t9 (t9 (t6 a))).1 (t9 (t9 (t7 a))).1 (t9 (t9 (t8 a))).1 (t9 (t9 (t9 a))).1 (t9 (t9 (t9 a.2))).1 (t9 (t9 (t9 (t2 a))))) fun v0 _ _ _ _ _ _ _ _ _ _ _ _ _ _ v20 v21 iL gL v24 jY jZ lM v28 oR v30 v31 pN oS oT pO kR v37 fA ld v40 sY sZ s_ ta oe v46 Gc Gd=>some (v0,v20,v21,iL,gL,v24,jY,jZ,lM,v28,oR,v30,v31,pN,oS,oT,pO,kR,v37,fA,ld,v40,sY,sZ,s_,ta,oe,v46,Gc,Gd)) all_nil)
end aO
namespace gy
def S:=so 228 [3,3] [3] .own [.I,.I] [.O]
theorem ay:Ct S f:=fun k=>c0 15 [ce (an.ay k)] Tryz.func228
end gy
namespace dM
def S:=so 229 [22] [3] .own [.V] [.O]
def h3 (k:Nat):Lh S.Y:=⟨3,⟨[.I,.V,.I,.I],[]⟩,fun K v0 v1 v2 v3=>l3 k v1 v2 (fun p0=>K (.exit 0) (cA [2,3] [.one (.l (.any)),.one (.l (.i .i64 p0))] [])) k v0 v3⟩
theorem ay:Ct S f:=fun k=>c1 21 [ce (gy.ay k)] [(3,[3,6,7,8]),(100003,[2,3])] [h3 k] Tryz.func229 (all_cons ((h3 k).fit fun K r v0 v1 v2 v3 h=>fm h (fun a m=>m a.1 v1 v2 a.2) fun v0 _ _ v3=>some (v0,v3)) all_nil)
end dM
namespace ig
def S:=so 247 [3,3,3] [3] .own [.I,.I,.I] [.O]
theorem ay:Ct S f:=fun k=>c0 12 [ce (dM.ay k)] Tryz.func247
end ig
namespace ij
def S:=so 227 [3,3,3,3] [4] .own [.I,.I,.I,.I] [.B]
theorem ay:Ct S f:=fun k=>c0 23 [ce (an.ay k),ce (ig.ay k)] Tryz.func227
end ij
namespace bQ
def S:=so 138 [22,22,22] [4] .own [.V,.V,.V] [.B]
def h5 (k:Nat):Lh S.Y:=⟨5,⟨[.V,.V,.V,.I,.I],[]⟩,fun K v0 v1 v2 v3 v4=>l5 k v0 v1 v2 v3 (K .ret (cA [6] [.one (.l (.b false))] [])) (K (.exit 0) (cA [6] [.one (.l (.any))] [])) k v4⟩
theorem ay:Ct S f:=fun k=>c1 47 [ce (an.ay k),ce (ij.ay k)] [(5,[0,1,2,27,28]),(100005,[6])] [h5 k] Tryz.func138 (all_cons ((h5 k).fit fun K r v0 v1 v2 v3 v4 h=>fm h (fun a m=>m v0 v1 v2 v3 a) fun _ _ _ _ v4=>some v4) all_nil)
end bQ
namespace bM
def S:=so 139 [22,3] [22] .own [.V,.I] [.l .own (.ints .i64)]
def h3 (k:Nat):Lh S.Y:=⟨3,⟨[.I,.l (.own 0),.I],[.V]⟩,fun K v0 v1 v2=>l3 k v0 (fun p0=>K (.exit 0) (cA [4,5] [.one (.l (.any)),.one (.l (.own 0))] [some (.row 0 0 (.ints .i64 p0))])) k v1 v2⟩
theorem ay:Ct S f:=fun k=>c1 39 [ce (aF.ay k),ce (gy.ay k),ce (dM.ay k)] [(3,[1,5,6]),(100003,[4,5])] [h3 k] Tryz.func139 (all_cons ((h3 k).fit fun K r v0 v1 v2 h=>fm h (fun a m=>m v0 a.1 a.2) fun _ v1 v2=>some (v1,v2)) all_nil)
end bM
namespace cM
def S:=so 230 [22] [22] .own [.V] [.l .own (.ints .i64)]
def h3 (k:Nat):Lh S.Y:=⟨3,⟨[.V,.l (.own 0),.I],[.V]⟩,fun K v0 v1 v2=>l3 k v0 (fun p0=>K (.exit 0) (cA [2,3] [.one (.l (.any)),.one (.l (.own 0))] [some (.row 0 0 (.ints .i64 p0))])) k v1 v2⟩
theorem ay:Ct S f:=fun k=>c1 19 [ce (fB.ay k)] [(3,[0,3,6]),(100003,[2,3])] [h3 k] Tryz.func230 (all_cons ((h3 k).fit fun K r v0 v1 v2 h=>fm h (fun a m=>m v0 a.1 a.2) fun _ v1 v2=>some (v1,v2)) all_nil)
end cM
namespace ik
def S:=so 140 [] [22] .own [] [.l .own (.ints .i64)]
theorem ay:Ct S f:=fun k=>c0 2 [ce (cM.ay k)] Tryz.func140
end ik
namespace bR
def S:=so 141 [22] [3] .own [.V] [.O]
def h3 (k:Nat):Lh S.Y:=⟨3,⟨[.I,.V,.I,.I],[]⟩,fun K v0 v1 v2 v3=>l3 k v1 v2 (fun p0=>K (.exit 0) (cA [2,3] [.one (.l (.any)),.one (.l (.i .i64 p0))] [])) k v0 v3⟩
theorem ay:Ct S f:=fun k=>c1 19 [ce (gy.ay k)] [(3,[3,6,7,8]),(100003,[2,3])] [h3 k] Tryz.func141 (all_cons ((h3 k).fit fun K r v0 v1 v2 v3 h=>fm h (fun a m=>m a.1 v1 v2 a.2) fun v0 _ _ v3=>some (v0,v3)) all_nil)
end bR
namespace gz
def S:=so 74 [22,22,22] [22,4] .own [.V,.V,.V] [.l .own (.ints .i64),.B]
theorem ay:Ct S f:=fun k=>c0 17 [ce (bQ.ay k),ce (bM.ay k),ce (ik.ay k),ce (bR.ay k)] Tryz.func74
end gz
namespace il
def S:=so 76 [35] [4] .own [.agg .aZ fF] [.B]
theorem ay:Ct S f:=fun k=>c0 15 [] Tryz.func76
end il
namespace gb
def S:=so 19 [35,22,22] [35,4] .own [.agg .aZ fF,.V,.V] [.agg .own fF,.B]
theorem ay:Ct S f:=fun k=>c0 50 [ce (aD.ay k),ce (au.ay k),ce (gz.ay k),ce (fy.ay k),ce (il.ay k)] Tryz.func19
end gb
namespace gQ
def S:Sp:=⟨78,⟨[84],[3],[.io],.own⟩,[.ptr ji],[.O,.ptr ji]⟩
theorem ay:Ct S f:=fun k=>c0 12 [ce (ao.ay k),ce (cv.ay k)] Tryz.func78
end gQ
namespace eC
def S:Sp:=⟨20,⟨[42],[35,3],[.eb],.own⟩,[.l .eb (.ints .u8)],[.agg .own fF,.O]⟩
theorem ay:Ct S f:=fun k=>c0 29 [ce (bw.ay k),ce (aT.ay k),ce (aI.ay k),ce (bp.ay k),ce (gQ.ay k)] Tryz.func20
end eC
namespace eW
def S:=so 80 [35,3] [35,4] .own [.agg .aZ fF,.I] [.agg .own fF,.B]
theorem ay:Ct S f:=fun k=>c0 36 [ce (aD.ay k),ce (au.ay k),ce (ec.ay k)] Tryz.func80
end eW
namespace gd
def S:=so 21 [35,3] [35,4] .own [.agg .aZ fF,.I] [.agg .own fF,.B]
theorem ay:Ct S f:=fun k=>c0 16 [ce (aD.ay k),ce (bX.ay k),ce (eW.ay k)] Tryz.func21
end gd
namespace dx
def S:Sp:=⟨22,⟨[42],[35],[.eb],.own⟩,[.l .eb (.ints .u8)],[.agg .own fF]⟩
theorem ay:Ct S f:=fun k=>c0 8 [ce (bw.ay k),ce (aT.ay k)] Tryz.func22
end dx
namespace gf
def S:=so 23 [35] [35,4] .own [.agg .aZ fF] [.agg .own fF,.B]
theorem ay:Ct S f:=fun k=>c0 8 [ce (eW.ay k)] Tryz.func23
end gf
namespace ey
def S:Sp:=⟨24,⟨[42],[35],[.eb],.own⟩,[.l .eb (.ints .u8)],[.agg .own fF]⟩
theorem ay:Ct S f:=fun k=>c0 5 [ce (dx.ay k)] Tryz.func24
end ey
namespace iX
def S:=so 307 [3] [3] .own [.I] [.O]
theorem ay:Ct S f:=fun k=>c0 17 [ce (dz.ay k)] Tryz.func307
end iX
namespace db
def S:=so 239 [22] [3] .own [.V] [.O]
def h3 (k:Nat):Lh S.Y:=⟨3,⟨[.I,.V,.I,.I],[]⟩,fun K v0 v1 v2 v3=>l3 k v1 v2 (fun p0=>K (.exit 0) (cA [2,3] [.one (.l (.any)),.one (.l (.i .i64 p0))] [])) k v0 v3⟩
theorem ay:Ct S f:=fun k=>c1 18 [ce (iX.ay k)] [(3,[3,6,7,8]),(100003,[2,3])] [h3 k] Tryz.func239 (all_cons ((h3 k).fit fun K r v0 v1 v2 v3 h=>fm h (fun a m=>m a.1 v1 v2 a.2) fun v0 _ _ v3=>some (v0,v3)) all_nil)
end db
namespace bH
def S:=so 152 [33] [22] .own [.agg .aZ iM] [.l .own (.ints .i64)]
def h3 (k:Nat):Lh S.Y:=⟨3,⟨[.l (.own 0),.W,.I,.I],[.V]⟩,fun K v0 v1 v2 v3=>l3 k v0 v1 (fun p0=>K (.exit 0) (cA [2,3] [.one (.l (.any)),.one (.l (.own 0))] [some (.row 0 0 (.ints .i64 p0))])) k v2 v3⟩
theorem ay:Ct S f:=fun k=>c1 21 [ce (db.ay k)] [(3,[3,8,9,10]),(100003,[2,3])] [h3 k] Tryz.func152 (all_cons ((h3 k).fit fun K r v0 v1 v2 v3 h=>fm h (fun a m=>m v0 v1 a.1 a.2) fun _ _ v2 v3=>some (v2,v3)) all_nil)
end bH
namespace ck
def S:=so 81 [33] [22] .own [.agg .aZ iM] [.l .own (.ints .i64)]
def h8 (k:Nat):Lh S.Y:=⟨8,⟨[.I,.l (.own 0),.l (.own 1),.l (.own 0),.I,.I],[.V,.V]⟩,fun K v0 v1 v2 v3 v4=>l8 k v1 v3 (fun p0=>K (.exit 0) (cA [2,3,4,5] [.one (.l (.any)),.one (.l (.i .i64 v0)),.one (.l (.own 0)),.one (.l (.own 1))] [some (.row 0 0 (.ints .i64 v3)),some (.row 0 0 (.ints .i64 p0))])) k v2 v4⟩
theorem ay:Ct S f:=fun k=>c1 40 [ce (cT.ay k),ce (bY.ay k),ce (bH.ay k),ce (dq.ay k)] [(8,[3,4,5,21,22,23]),(100008,[2,3,4,5])] [h8 k] Tryz.func81 (all_cons ((h8 k).fit fun K r v0 v1 v2 v3 v4 h=>fm h (fun a m=>m v0 v1 a.1 v3 a.2) fun _ _ v2 _ v4=>some (v2,v4)) all_nil)
end ck
namespace fg
def S:=so 25 [35] [35,4] .own [.agg .aZ fF] [.agg .own fF,.B]
theorem ay:Ct S f:=fun k=>c0 36 [ce (aD.ay k),ce (au.ay k),ce (ck.ay k),ce (eh.ay k)] Tryz.func25
end fg
namespace aN
def S:=so 154 [3] [9] .own [.I] [.l .own .str]
def h5 (k:Nat):Lh S.Y:=⟨5,⟨[.I,.l (.s),.I],[]⟩,fun K v0 v1 v2=>l5 k (fun p0=>K (.exit 0) (cA [0,2,3] [.one (.l (.i .i64 v0)),.one (.l (.any)),.one (.l (.s p0))] [])) k v1 v2⟩
theorem ay:Ct S f:=fun k=>c1 31 [] [(5,[0,3,4]),(100005,[0,2,3])] [h5 k] Tryz.func154 (all_cons ((h5 k).fit fun K r v0 v1 v2 h=>fm h (fun a m=>m v0 a.1 a.2) fun _ v1 v2=>some (v1,v2)) all_nil)
end aN
namespace gA
def S:=so 155 [31] [9] .own [.agg .aZ mi] [.l .own .str]
theorem ay:Ct S f:=fun k=>c0 16 [] Tryz.func155
end gA
namespace gg
def S:=so 329 [3] [9] .own [.I] [.l .own .str]
theorem ay:Ct S f:=fun k=>c0 7 [] Tryz.func329
end gg
namespace iP
def S:=so 291 [3] [9] .own [.I] [.l .own .str]
theorem ay:Ct S f:=fun k=>c0 25 [ce (gg.ay k)] Tryz.func291
end iP
namespace aS
def S:=so 215 [22] [9] .own [.V] [.l .own .str]
def h5 (k:Nat):Lh S.Y:=⟨5,⟨[.V,.l (.own 0),.I],[.row false .strs]⟩,fun K v0 v1 v2=>l5 k v0 (fun p0=>K (.exit 0) (cA [2,3] [.one (.l (.any)),.one (.l (.own 0))] [some (.row 0 0 (.strs p0))])) k v1 v2⟩
theorem ay:Ct S f:=fun k=>c1 89 [ce (be.ay k),ce (iP.ay k)] [(5,[0,3,4]),(100005,[2,3])] [h5 k] Tryz.func215 (all_cons ((h5 k).fit fun K r v0 v1 v2 h=>fm h (fun a m=>m v0 a.1 a.2) fun _ v1 v2=>some (v1,v2)) all_nil)
end aS
namespace eg
def S:=so 156 [22] [9] .own [.V] [.l .own .str]
theorem ay:Ct S f:=fun k=>c0 8 [ce (aS.ay k)] Tryz.func156
end eg
namespace gB
def S:=so 83 [31] [9] .own [.agg .aZ mi] [.l .own .str]
theorem ay:Ct S f:=fun k=>c0 39 [ce (bV.ay k),ce (aN.ay k),ce (gA.ay k),ce (eg.ay k)] Tryz.func83
end gB
namespace kz
def S:Sp:=⟨157,⟨[84],[22],[.io],.eb⟩,[.ptr ji],[.l .eb (.ints .i64),.ptr ji]⟩
theorem ay:Ct S f:=fun k=>c0 24 [ce (ao.ay k),ce (cv.ay k),ce (aV.ay k)] Tryz.func157
end kz
namespace jw
def S:Sp:=⟨84,⟨[84],[31],[.io],.aZ⟩,[.ptr ji],[.agg .aZ mi,.ptr ji]⟩
theorem ay:Ct S f:=fun k=>c0 41 [ce (ao.ay k),ce (di.ay k),ce (cv.ay k),ce (kz.ay k)] Tryz.func84
end jw
namespace eM
def S:Sp:=⟨26,⟨[42],[35,9],[.eb],.own⟩,[.l .eb (.ints .u8)],[.agg .own fF,.l .own .str]⟩
theorem ay:Ct S f:=fun k=>c0 14 [ce (bw.ay k),ce (aT.ay k),ce (gB.ay k),ce (jw.ay k)] Tryz.func26
end eM
namespace ca
def S:=so 29 [35,35] [4] .own [.agg .aZ fF,.agg .aZ fF] [.B]
theorem ay:Ct S f:=fun k=>c0 52 [ce (cC.ay k),ce (cR.ay k),ce (aB.ay k),ce (br.ay k)] Tryz.func29
end ca
namespace aw
def S:Sp:=⟨4,⟨[42],[4],[.eb],.own⟩,[.l .eb (.ints .u8)],[.B]⟩
def We:Hd:=⟨[.l (.ptr 0 0),.l (.ptr 12 0),.l (.b),.l (.ptr 24 0),.l (.ptr 36 0),.l (.b),.l (.ptr 48 0),.l (.ptr 60 0),.l (.b),.l (.ptr 72 0),.l (.ptr 84 0),.l (.b),.l (.ptr 96 0),.l (.ptr 108 0),.l (.b),.l (.ptr 120 0),.l (.ptr 132 0),.l (.b)],[.box [.I,.I,.b,.b,.own 1,.own 2,.I,.I,.own 3,.b,.own 4,.I,.I,.b,.b,.own 5,.own 6,.I,.I,.own 7,.own 8,.own 9,.I,.I,.I,.own 10,.own 11],.V,.V,.V,.V,.V,.V,.W,.V,.V,.V,.W,.box [.I,.I,.b,.b,.own 13,.own 14,.I,.I,.own 15,.b,.own 16,.I,.I,.b,.b,.own 17,.own 18,.I,.I,.own 19,.own 20,.own 21,.I,.I,.I,.own 22,.own 23],.V,.V,.V,.V,.V,.V,.W,.V,.V,.V,.W,.box [.I,.I,.b,.b,.own 25,.own 26,.I,.I,.own 27,.b,.own 28,.I,.I,.b,.b,.own 29,.own 30,.I,.I,.own 31,.own 32,.own 33,.I,.I,.I,.own 34,.own 35],.V,.V,.V,.V,.V,.V,.W,.V,.V,.V,.W,.box [.I,.I,.b,.b,.own 37,.own 38,.I,.I,.own 39,.b,.own 40,.I,.I,.b,.b,.own 41,.own 42,.I,.I,.own 43,.own 44,.own 45,.I,.I,.I,.own 46,.own 47],.V,.V,.V,.V,.V,.V,.W,.V,.V,.V,.W,.box [.I,.I,.b,.b,.own 49,.own 50,.I,.I,.own 51,.b,.own 52,.I,.I,.b,.b,.own 53,.own 54,.I,.I,.own 55,.own 56,.own 57,.I,.I,.I,.own 58,.own 59],.V,.V,.V,.V,.V,.V,.W,.V,.V,.V,.W,.box [.I,.I,.b,.b,.own 61,.own 62,.I,.I,.own 63,.b,.own 64,.I,.I,.b,.b,.own 65,.own 66,.I,.I,.own 67,.own 68,.own 69,.I,.I,.I,.own 70,.own 71],.V,.V,.V,.V,.V,.V,.W,.V,.V,.V,.W,.box [.I,.I,.b,.b,.own 73,.own 74,.I,.I,.own 75,.b,.own 76,.I,.I,.b,.b,.own 77,.own 78,.I,.I,.own 79,.own 80,.own 81,.I,.I,.I,.own 82,.own 83],.V,.V,.V,.V,.V,.V,.W,.V,.V,.V,.W,.box [.I,.I,.b,.b,.own 85,.own 86,.I,.I,.own 87,.b,.own 88,.I,.I,.b,.b,.own 89,.own 90,.I,.I,.own 91,.own 92,.own 93,.I,.I,.I,.own 94,.own 95],.V,.V,.V,.V,.V,.V,.W,.V,.V,.V,.W,.box [.I,.I,.b,.b,.own 97,.own 98,.I,.I,.own 99,.b,.own 100,.I,.I,.b,.b,.own 101,.own 102,.I,.I,.own 103,.own 104,.own 105,.I,.I,.I,.own 106,.own 107],.V,.V,.V,.V,.V,.V,.W,.V,.V,.V,.W,.box [.I,.I,.b,.b,.own 109,.own 110,.I,.I,.own 111,.b,.own 112,.I,.I,.b,.b,.own 113,.own 114,.I,.I,.own 115,.own 116,.own 117,.I,.I,.I,.own 118,.own 119],.V,.V,.V,.V,.V,.V,.W,.V,.V,.V,.W,.box [.I,.I,.b,.b,.own 121,.own 122,.I,.I,.own 123,.b,.own 124,.I,.I,.b,.b,.own 125,.own 126,.I,.I,.own 127,.own 128,.own 129,.I,.I,.I,.own 130,.own 131],.V,.V,.V,.V,.V,.V,.W,.V,.V,.V,.W,.box [.I,.I,.b,.b,.own 133,.own 134,.I,.I,.own 135,.b,.own 136,.I,.I,.b,.b,.own 137,.own 138,.I,.I,.own 139,.own 140,.own 141,.I,.I,.I,.own 142,.own 143],.V,.V,.V,.V,.V,.V,.W,.V,.V,.V,.W]⟩
theorem ay:Ct S f:=fun k=>c2 242 [ce (fL.ay k),ce (tZ.ay k),ce (eX.ay k),ce (ga.ay k),ce (aO.ay k),ce (gb.ay k),ce (eC.ay k),ce (gd.ay k),ce (dx.ay k),ce (gf.ay k),ce (ey.ay k),ce (fg.ay k),ce (eM.ay k),ce (cc.ay k),ce (d_.ay k),ce (ca.ay k)] [(500017,[3,5,6,7,10,11,12,14,15,16,17,18,19,20,21,22,24,25])] 17 We (Mx k) Tryz.func4
end aw
end Go.Proofs.YtbmmhdmljajcfaaGreatDoor
