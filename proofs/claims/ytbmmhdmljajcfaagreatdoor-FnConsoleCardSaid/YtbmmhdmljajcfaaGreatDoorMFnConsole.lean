/- That the Go functions come to the answers of the plain ones. Printed by a program. -/
import Derived.Test.YtbmmhdmljajcfaaGreatDoorT
import Derived.Test.YtbmmhdmljajcfaaGreatDoorMImplConsoleLine
import Derived.Test.YtbmmhdmljajcfaaGreatDoorFFnConsole
set_option linter.unusedVariables false
set_option maxRecDepth 100000
set_option maxHeartbeats 20000000
namespace Go.Proofs.YtbmmhdmljajcfaaGreatDoor
open Go Go.Proofs.YtbmmhdmljajcfaaGreatDoor.V Go.Proofs.YtbmmhdmljajcfaaGreatDoor.M
namespace wG
def S:Sp:=⟨15,⟨[42],[4],[.fL],.own⟩,[.l .fL (.ints .u8)],[.B]⟩
theorem aq:Ct S f:=fun k=>c0 6 [] Tryz.func15
end wG
namespace eY
def S:=so 29 [35,35] [4] .own [.agg .aS gF,.agg .aS gF] [.B]
theorem aq:Ct S f:=fun k=>c0 52 [ce (dD.aq k),ce (dW.aq k),ce (aI.aq k),ce (bQ.aq k)] Tryz.func29
end eY
namespace dU
def S:Sp:=⟨65,⟨[42],[84],[.fL],.own⟩,[.l .fL (.ints .u8)],[.ptr kV]⟩
def h3 (k:Nat):Lh S.Y:=⟨3,⟨[.l (.val true false (.ints .u8)),.I,.I],[]⟩,fun K v0 v1 v2=>l3 k v0 (fun p0=>K (.exit 0) (bZ [0,2,3] [.one (.l (.val true (.ints .u8 v0))),.one (.l (.any)),.one (.l (.i .i64 p0))] [])) k v1 v2⟩
theorem aq:Ct S f:=fun k=>c1 32 [] [(3,[0,3,4]),(100003,[0,2,3])] [h3 k] Tryz.func65 (all_cons ((h3 k).fit fun K r v0 v1 v2 h=>fm h (fun a m=>m v0 a.1 a.2) fun _ v1 v2=>some (v1,v2)) all_nil)
end dU
namespace gv
def S:Sp:=⟨134,⟨[84],[3],[.io],.own⟩,[.ptr kV],[.O,.ptr kV]⟩
theorem aq:Ct S f:=fun k=>c0 58 [] Tryz.func134
end gv
namespace aC
def S:Sp:=⟨67,⟨[84,3],[3],[.io,.mS],.own⟩,[.ptr kV,.I],[.O,.ptr kV]⟩
theorem aq:Ct S f:=fun k=>c0 31 [ce (gv.aq k)] Tryz.func67
end aC
namespace dY
def S:=so 117 [31] [31] .own [.agg .aS ov] [.agg .own ov]
theorem aq:Ct S f:=fun k=>c0 14 [] Tryz.func117
end dY
namespace aO
def S:=so 213 [3,3,3] [4] .own [.I,.I,.I] [.B]
theorem aq:Ct S f:=fun k=>c0 15 [] Tryz.func213
end aO
namespace kf
def S:=so 328 [3] [4] .own [.I] [.B]
theorem aq:Ct S f:=fun k=>c0 17 [ce (aO.aq k)] Tryz.func328
end kf
namespace bR
def S:=so 290 [22] [4] .own [.V] [.B]
def h3 (k:Nat):Lh S.Y:=⟨3,⟨[.V,.I,.I],[]⟩,fun K v0 v1 v2=>l3 k v0 (fun p0=>K .ret (bZ [0,2,3] [.one (.l (.val false (.ints .i64 v0))),.one (.l (.b false)),.one (.l (.i .i64 p0))] [])) (fun p0=>K (.exit 0) (bZ [0,2,3] [.one (.l (.val false (.ints .i64 v0))),.one (.l (.any)),.one (.l (.i .i64 p0))] [])) k v1 v2⟩
theorem aq:Ct S f:=fun k=>c1 55 [ce (kf.aq k)] [(3,[0,3,4]),(100003,[0,2,3])] [h3 k] Tryz.func290 (all_cons ((h3 k).fit fun K r v0 v1 v2 h=>fm h (fun a m=>m v0 a.1 a.2) fun _ v1 v2=>some (v1,v2)) all_nil)
end bR
namespace eJ
def S:=so 224 [22] [4] .own [.V] [.B]
theorem aq:Ct S f:=fun k=>c0 10 [ce (bR.aq k)] Tryz.func224
end eJ
namespace dz
def S:=so 135 [31] [4] .own [.agg .aS ov] [.B]
theorem aq:Ct S f:=fun k=>c0 39 [ce (aO.aq k),ce (eJ.aq k)] Tryz.func135
end dz
namespace fx
def S:=so 68 [31] [35,4] .own [.agg .aS ov] [.agg .own gF,.B]
theorem aq:Ct S f:=fun k=>c0 11 [ce (dY.aq k),ce (dz.aq k)] Tryz.func68
end fx
namespace aQ
def S:Sp:=⟨72,⟨[84,3],[4],[.io,.mS],.own⟩,[.ptr kV,.I],[.B,.ptr kV]⟩
theorem aq:Ct S f:=fun k=>c0 9 [ce (aC.aq k)] Tryz.func72
end aQ
namespace mg
def S:Sp:=⟨73,⟨[84,22],[3],[.io,.mS],.own⟩,[.ptr kV,.V],[.O,.ptr kV]⟩
theorem aq:Ct S f:=fun k=>c0 12 [ce (aC.aq k)] Tryz.func73
end mg
namespace gb
def S:Sp:=⟨225,⟨[84],[3],[.io],.own⟩,[.ptr kV],[.O,.ptr kV]⟩
theorem aq:Ct S f:=fun k=>c0 15 [ce (aC.aq k),ce (mg.aq k)] Tryz.func225
end gb
namespace bA
def S:Sp:=⟨136,⟨[84,3],[22],[.io,.mS],.own⟩,[.ptr kV,.I],[.l .own (.ints .i64),.ptr kV]⟩
theorem step (k:Nat) (self:LI->Int->Int->Int->Option (LI×LI×Int×Int)) (Wc:G3 Tryz.prog S self):G3 Tryz.prog S (b k self):=c0 38 [ce (aC.aq k),ce (aQ.aq k),ce Wc,ce (gb.aq k)] Tryz.func136
theorem aq (k:Nat):G3 Tryz.prog S (f k):=KW (S:=S) (b:=b k) (g:=g k) ⟨Tryz.f136,Tryz.func136,by kernel_rfl,by kernel_rfl⟩ (fun _=>rfl) (fun _=>rfl) (step k) k
end bA
namespace hJ
def S:Sp:=⟨69,⟨[84],[31],[.io],.own⟩,[.ptr kV],[.agg .own ov,.ptr kV]⟩
theorem aq:Ct S f:=fun k=>c0 30 [ce (aC.aq k),ce (aQ.aq k),ce (bA.aq k)] Tryz.func69
end hJ
namespace da
def S:=so 119 [25] [25] .own [.l .aS .rows] [.l .own .rows]
def h3 (k:Nat):Lh S.Y:=⟨3,⟨[.W,.l (.own 0),.I],[.W]⟩,fun K v0 v1 v2=>l3 k v0 (fun p0=>K (.exit 0) (bZ [2,3] [.one (.l (.any)),.one (.l (.own 0))] [some (.row 0 0 (.rows true p0))])) k v1 v2⟩
theorem aq:Ct S f:=fun k=>c1 22 [] [(3,[0,3,4]),(100003,[2,3])] [h3 k] Tryz.func119 (all_cons ((h3 k).fit fun K r v0 v1 v2 h=>fm h (fun a m=>m v0 a.1 a.2) fun _ v1 v2=>some (v1,v2)) all_nil)
end da
namespace eo
def S:=so 118 [33] [33] .own [.agg .aS jV] [.agg .own jV]
theorem aq:Ct S f:=fun k=>c0 24 [ce (dY.aq k),ce (da.aq k)] Tryz.func118
end eo
namespace bM
def S:=so 43 [35] [35] .own [.agg .aS gF] [.agg .own gF]
theorem aq:Ct S f:=fun k=>c0 27 [ce (dY.aq k),ce (eo.aq k),ce (da.aq k)] Tryz.func43
end bM
namespace dK
def S:=so 292 [3,22] [4] .own [.I,.V] [.B]
def h3 (k:Nat):Lh S.Y:=⟨3,⟨[.I,.V,.I,.I],[]⟩,fun K v0 v1 v2 v3=>l3 k v1 (fun p0=>K .ret (bZ [0,1,4,5] [.one (.l (.i .i64 v0)),.one (.l (.val false (.ints .i64 v1))),.one (.l (.b false)),.one (.l (.i .i64 p0))] [])) (fun p0=>K (.exit 0) (bZ [0,1,4,5] [.one (.l (.i .i64 v0)),.one (.l (.val false (.ints .i64 v1))),.one (.l (.any)),.one (.l (.i .i64 p0))] [])) k v2 v3⟩
theorem aq:Ct S f:=fun k=>c1 37 [ce (aO.aq k)] [(3,[0,1,5,6]),(100003,[0,1,4,5])] [h3 k] Tryz.func292 (all_cons ((h3 k).fit fun K r v0 v1 v2 v3 h=>fm h (fun a m=>m v0 v1 a.1 a.2) fun _ _ v2 v3=>some (v2,v3)) all_nil)
end dK
namespace dM
def S:=so 216 [3,25] [4] .own [.I,.l .aS .rows] [.B]
def h2 (k:Nat):Lh S.Y:=⟨2,⟨[.I,.W,.I],[]⟩,fun K v0 v1 v2=>l2 k v0 v1 (K .ret (bZ [0,1,4] [.one (.l (.i .i64 v0)),.one (.l (.val false (.rows false v1))),.one (.l (.b false))] [])) (K (.exit 0) (bZ [0,1,4] [.one (.l (.i .i64 v0)),.one (.l (.val false (.rows false v1))),.one (.l (.any))] [])) k v2⟩
theorem aq:Ct S f:=fun k=>c1 26 [ce (aO.aq k),ce (dK.aq k)] [(2,[0,1,5]),(100002,[0,1,4])] [h2 k] Tryz.func216 (all_cons ((h2 k).fit fun K r v0 v1 v2 h=>fm h (fun a m=>m v0 v1 a) fun _ _ v2=>some v2) all_nil)
end dM
namespace aY
def S:=so 293 [22,22] [4] .own [.V,.V] [.B]
def h4 (k:Nat):Lh S.Y:=⟨4,⟨[.V,.V,.I],[]⟩,fun K v0 v1 v2=>l4 k v0 v1 (K .ret (bZ [4] [.one (.l (.b false))] [])) (K (.exit 0) (bZ [4] [.one (.l (.any))] [])) k v2⟩
theorem aq:Ct S f:=fun k=>c1 26 [] [(4,[0,1,5]),(100004,[4])] [h4 k] Tryz.func293 (all_cons ((h4 k).fit fun K r v0 v1 v2 h=>fm h (fun a m=>m v0 v1 a) fun _ _ v2=>some v2) all_nil)
end aY
namespace fy
def S:=so 294 [31,31] [4] .own [.agg .aS ov,.agg .aS ov] [.B]
theorem aq:Ct S f:=fun k=>c0 59 [ce (aY.aq k)] Tryz.func294
end fy
namespace bf
def S:=so 217 [33,33] [4] .own [.agg .aS jV,.agg .aS jV] [.B]
def h4 (k:Nat):Lh S.Y:=⟨4,⟨[.l (.ptr 0 0),.l (.ptr 1 0),.I],[.box [.I,.I,.b,.b,.V,.V,.I,.I,.W,.V,.V,.I,.I,.I],.box [.I,.I,.b,.b,.V,.V,.I,.I,.W,.V,.V,.I,.I,.I]]⟩,fun K v0 v1 v2 v3 v4 v5 v6 v7 v8 v9 v10 v11 v12 fG fH eZ fq gw jF iS v20 v21 iR ij v24 j4 j5 lg v28=>l4 k v9 ij (K .ret (bZ [2,3,4] [.one (.l (.fP 0 0)),.one (.l (.fP 1 0)),.one (.l (.b false))] [some (.box 0 [.i .i64 v1,.i .i64 v2,.b v3,.b v4,.val false (.ints .i64 v5),.val false (.ints .i64 v6),.i .i64 v7,.i .i64 v8,.val false (.rows false v9),.val false (.ints .i64 v10),.val false (.ints .i64 v11),.i .i64 v12,.i .i64 fG,.i .i64 fH]),some (.box 0 [.i .i64 eZ,.i .i64 fq,.b gw,.b jF,.val false (.ints .i64 iS),.val false (.ints .i64 v20),.i .i64 v21,.i .i64 iR,.val false (.rows false ij),.val false (.ints .i64 v24),.val false (.ints .i64 j4),.i .i64 j5,.i .i64 lg,.i .i64 v28])])) (K (.exit 0) (bZ [2,3,4] [.one (.l (.fP 0 0)),.one (.l (.fP 1 0)),.one (.l (.any))] [some (.box 0 [.i .i64 v1,.i .i64 v2,.b v3,.b v4,.val false (.ints .i64 v5),.val false (.ints .i64 v6),.i .i64 v7,.i .i64 v8,.val false (.rows false v9),.val false (.ints .i64 v10),.val false (.ints .i64 v11),.i .i64 v12,.i .i64 fG,.i .i64 fH]),some (.box 0 [.i .i64 eZ,.i .i64 fq,.b gw,.b jF,.val false (.ints .i64 iS),.val false (.ints .i64 v20),.i .i64 v21,.i .i64 iR,.val false (.rows false ij),.val false (.ints .i64 v24),.val false (.ints .i64 j4),.i .i64 j5,.i .i64 lg,.i .i64 v28])])) k v0⟩
theorem aq:Ct S f:=fun k=>c1 72 [ce (aY.aq k),ce (fy.aq k)] [(4,[2,3,5]),(100004,[2,3,4])] [h4 k] Tryz.func217 (all_cons ((h4 k).fit fun K r v0 v1 v2 v3 v4 v5 v6 v7 v8 v9 v10 v11 v12 fG fH eZ fq gw jF iS v20 v21 iR ij v24 j4 j5 lg v28 h=>fm h (fun a m=>m a v1 v2 v3 v4 v5 v6 v7 v8 v9 v10 v11 v12 fG fH eZ fq gw jF iS v20 v21 iR ij v24 j4 j5 lg v28) fun v0 _ _ _ _ _ _ _ _ _ _ _ _ _ _ _ _ _ _ _ _ _ _ _ _ _ _ _ _=>some v0) all_nil)
end bf
namespace cP
def S:=so 190 [3] [4] .own [.I] [.B]
theorem aq:Ct S f:=fun k=>c0 5 [ce (aO.aq k)] Tryz.func190
end cP
namespace bU
def S:=so 272 [22,3] [4] .own [.V,.I] [.B]
def h2 (k:Nat):Lh S.Y:=⟨2,⟨[.V,.I,.I],[]⟩,fun K v0 v1 v2=>l2 k v0 v1 (K .ret (bZ [4] [.one (.l (.b true))] [])) (K (.exit 0) (bZ [4] [.one (.l (.any))] [])) k v2⟩
theorem aq:Ct S f:=fun k=>c1 18 [] [(2,[0,1,5]),(100002,[4])] [h2 k] Tryz.func272 (all_cons ((h2 k).fit fun K r v0 v1 v2 h=>fm h (fun a m=>m v0 v1 a) fun _ _ v2=>some v2) all_nil)
end bU
namespace bx
def S:=so 231 [22] [4] .own [.V] [.B]
def h2 (k:Nat):Lh S.Y:=⟨2,⟨[.V,.I],[]⟩,fun K v0 v1=>l2 k v0 (K .ret (bZ [2] [.one (.l (.b false))] [])) (K (.exit 0) (bZ [2] [.one (.l (.any))] [])) k v1⟩
theorem aq:Ct S f:=fun k=>c1 26 [ce (cP.aq k),ce (bU.aq k)] [(2,[0,3]),(100002,[2])] [h2 k] Tryz.func231 (all_cons ((h2 k).fit fun K r v0 v1 h=>fm h (fun a m=>m v0 a) fun _ v1=>some v1) all_nil)
end bx
namespace bS
def S:=so 295 [22,3,3] [25,22,4] .own [.V,.I,.I] [.l .own .rows,.l .own (.ints .i64),.B]
def h9 (k:Nat):Lh S.Y:=⟨9,⟨[.V,.I,.I,.l (.own 0),.I,.l (.own 1),.I],[.W,.V]⟩,fun K v0 v1 v2 v3 v4 v5 v6=>l9 k v0 v1 v2 v3 (fun p0=>K (.exit 2) (bZ [0,1,2,6,7,8,9,10,11] [.one (.l (.val false (.ints .i64 v0))),.one (.l (.i .i64 v1)),.one (.l (.i .i64 v2)),.one (.l (.any)),.one (.l (.any)),.one (.l (.any)),.one (.l (.own 0)),.one (.l (.i .i64 v3)),.one (.l (.own 1))] [some (.row 0 0 (.rows true v5)),some (.row 0 0 (.ints .i64 p0))])) k v4 v6⟩
def h5 (k:Nat):Lh S.Y:=⟨5,⟨[.V,.I,.I,.l (.own 0),.I],[.W]⟩,fun K v0 v1 v2 v3 v4=>l5 k v0 v1 v2 (fun p0=>K (.exit 0) (bZ [0,1,2,6,7,8,9] [.one (.l (.val false (.ints .i64 v0))),.one (.l (.i .i64 v1)),.one (.l (.i .i64 v2)),.one (.l (.any)),.one (.l (.any)),.one (.l (.any)),.one (.l (.own 0))] [some (.row 0 0 (.rows true p0))])) k v3 v4⟩
theorem aq:Ct S f:=fun k=>c1 73 [ce (aO.aq k),ce (bx.aq k)] [(9,[0,1,2,9,10,11,12]),(100009,[0,1,2,6,7,8,9,10,11]),(5,[0,1,2,9,10]),(100005,[0,1,2,6,7,8,9])] [h9 k,h5 k] Tryz.func295 (all_cons ((h5 k).fit fun K r v0 v1 v2 v3 v4 h=>fm h (fun a m=>m v0 v1 v2 a.1 a.2) fun _ _ _ v3 v4=>some (v3,v4)) (all_cons ((h9 k).fit fun K r v0 v1 v2 v3 v4 v5 v6 h=>fm h (fun a m=>m v0 v1 v2 v3 a.1 v5 a.2) fun _ _ _ _ v4 _ v6=>some (v4,v6)) all_nil))
end bS
namespace hR
def S:=so 218 [31,22] [33,4] .own [.agg .aS ov,.V] [.agg .own jV,.B]
theorem aq:Ct S f:=fun k=>c0 45 [ce (dY.aq k),ce (dz.aq k),ce (bx.aq k),ce (bS.aq k)] Tryz.func218
end hR
namespace bh
def S:=so 144 [33] [4] .own [.agg .aS jV] [.B]
def h5 (k:Nat):Lh S.Y:=⟨5,⟨[.l (.ptr 0 0),.l (.own 1),.I],[.box [.I,.I,.b,.b,.V,.V,.I,.I,.W,.V,.V,.I,.I,.I],.V]⟩,fun K v0 _ _ _ _ _ _ _ _ v9 _ _ _ _ _ eZ=>l5 k v9 (fun p0=>K (.exit 0) (bZ [2,3] [.one (.l (.any)),.one (.l (.own 0))] [some (.row 0 0 (.ints .i64 p0))])) k v0 eZ⟩
theorem aq:Ct S f:=fun k=>c1 79 [ce (dz.aq k),ce (aO.aq k),ce (bx.aq k)] [(5,[1,3,4]),(100005,[2,3])] [h5 k] Tryz.func144 (all_cons ((h5 k).fit fun K r v0 v1 v2 v3 v4 v5 v6 v7 v8 v9 v10 v11 v12 fG fH eZ h=>fm h (fun a m=>m a.1 v1 v2 v3 v4 v5 v6 v7 v8 v9 v10 v11 v12 fG fH a.2) fun v0 _ _ _ _ _ _ _ _ _ _ _ _ _ _ eZ=>some (v0,eZ)) all_nil)
end bh
namespace cq
def S:=so 232 [33] [3] .own [.agg .aS jV] [.O]
def h2 (k:Nat):Lh S.Y:=⟨2,⟨[.l (.ptr 0 0),.I],[.box [.I,.I,.b,.b,.V,.V,.I,.I,.W,.V,.V,.I,.I,.I]]⟩,fun K v0 _ _ _ _ _ _ _ _ v9 _ _ _ _ _=>l2 k v9 (fun p0=>K .ret (bZ [2] [.one (.l (.i .i64 p0))] [])) (K (.exit 0) (bZ [2] [.one (.l (.any))] [])) k v0⟩
theorem aq:Ct S f:=fun k=>c1 19 [] [(2,[1,3]),(100002,[2])] [h2 k] Tryz.func232 (all_cons ((h2 k).fit fun K r v0 v1 v2 v3 v4 v5 v6 v7 v8 v9 v10 v11 v12 fG fH h=>fm h (fun a m=>m a v1 v2 v3 v4 v5 v6 v7 v8 v9 v10 v11 v12 fG fH) fun v0 _ _ _ _ _ _ _ _ _ _ _ _ _ _=>some v0) all_nil)
end cq
namespace fI
def S:=so 145 [33] [4] .own [.agg .aS jV] [.B]
theorem aq:Ct S f:=fun k=>c0 22 [ce (cq.aq k)] Tryz.func145
end fI
namespace b_
def S:=so 319 [33] [33,4] .own [.agg .aS jV] [.agg .own jV,.B]
def h6 (k:Nat):Lh S.Y:=⟨6,⟨[.l (.ptr 0 0),.l (.ptr 1 0),.l (.ptr 2 0),.I,.I],[.box [.I,.I,.b,.b,.V,.V,.I,.I,.W,.V,.V,.I,.I,.I],.box [.I,.I,.bc false,.bc false,.nil,.nil,.I,.I,.nil,.nil,.nil,.I,.I,.I],.box [.I,.I,.b,.b,.own 3,.own 4,.I,.I,.own 5,.own 6,.own 7,.I,.I,.I],.V,.V,.W,.V,.V]⟩,fun K v0 v1 v2 v3 v4 v5 v6 v7 v8 v9 v10 v11 v12 fG fH eZ fq gw v20 v21 iR ij v24 j4 j5 lg v28 n4 v30 v31 Dv yh yi Dw oM v37 jh=>l6 k v8 fG (fun p0 p1 p2 p3=>K (.exit 0) (bZ [1,2,3,4,5] [.one (.l (.fP 0 0)),.one (.l (.fP 1 0)),.one (.l (.any)),.one (.l (.fP 2 0)),.one (.l (.i .i64 p0))] [some (.box 0 [.i .i64 v2,.i .i64 v3,.b v4,.b v5,.val false (.ints .i64 v6),.val false (.ints .i64 v7),.i .i64 v8,.i .i64 v9,.val false (.rows false v10),.val false (.ints .i64 v11),.val false (.ints .i64 v12),.i .i64 fG,.i .i64 fH,.i .i64 eZ]),some (.box 0 [.i .i64 fq,.i .i64 gw,.b false,.b false,.nil,.nil,.i .i64 v20,.i .i64 v21,.nil,.nil,.nil,.i .i64 iR,.i .i64 ij,.i .i64 v24]),some (.box 0 [.i .i64 j4,.i .i64 j5,.b lg,.b v28,.own 3,.own 4,.i .i64 n4,.i .i64 v30,.own 5,.own 6,.own 7,.i .i64 v31,.i .i64 Dv,.i .i64 yh]),some (.row 0 0 (.ints .i64 yi)),some (.row 0 0 (.ints .i64 Dw)),some (.row 0 0 (.rows true p1)),some (.row 0 0 (.ints .i64 p2)),some (.row 0 0 (.ints .i64 p3))])) k v0 v1 oM v37 jh⟩
theorem aq:Ct S f:=fun k=>c1 97 [ce (eo.aq k),ce (bh.aq k),ce (fI.aq k)] [(6,[1,2,4,5,6]),(100006,[1,2,3,4,5])] [h6 k] Tryz.func319 (all_cons ((h6 k).fit fun K r v0 v1 v2 v3 v4 v5 v6 v7 v8 v9 v10 v11 v12 fG fH eZ fq gw v20 v21 iR ij v24 j4 j5 lg v28 n4 v30 v31 Dv yh yi Dw oM v37 jh h=>fm h (fun a m=>m a.1 a.2.1 v2 v3 v4 v5 v6 v7 v8 v9 v10 v11 v12 fG fH eZ fq gw v20 v21 iR ij v24 j4 j5 lg v28 n4 v30 v31 Dv yh yi Dw (t2 a).1 (t3 a).1 (t4 a)) fun v0 v1 _ _ _ _ _ _ _ _ _ _ _ _ _ _ _ _ _ _ _ _ _ _ _ _ _ _ _ _ _ _ _ _ oM v37 jh=>some (v0,v1,oM,v37,jh)) all_nil)
end b_
namespace bB
def S:=so 146 [22] [22] .own [.V] [.l .own (.ints .i64)]
def h6 (k:Nat):Lh S.Y:=⟨6,⟨[.V,.l (.own 0),.I,.I],[.V]⟩,fun K v0 v1 v2 v3=>l6 k v0 v1 v3 (fun p0=>K (.exit 2) (bZ [0,2,3,4,5] [.one (.l (.val false (.ints .i64 v0))),.one (.l (.any)),.one (.l (.own 0)),.one (.l (.i .i64 v1)),.one (.l (.i .i64 p0))] [some (.row 0 0 (.ints .i64 v3))])) k v2⟩
def h3 (k:Nat):Lh S.Y:=⟨3,⟨[.V,.l (.own 0),.I],[.V]⟩,fun K v0 v1 v2=>l3 k v0 (fun p0=>K (.exit 0) (bZ [2,3] [.one (.l (.any)),.one (.l (.own 0))] [some (.row 0 0 (.ints .i64 p0))])) k v1 v2⟩
theorem aq:Ct S f:=fun k=>c1 47 [] [(6,[0,3,4,5]),(100006,[0,2,3,4,5]),(3,[0,3,4]),(100003,[2,3])] [h6 k,h3 k] Tryz.func146 (all_cons ((h3 k).fit fun K r v0 v1 v2 h=>fm h (fun a m=>m v0 a.1 a.2) fun _ v1 v2=>some (v1,v2)) (all_cons ((h6 k).fit fun K r v0 v1 v2 v3 h=>fm h (fun a m=>m v0 v1 a v3) fun _ _ v2 _=>some v2) all_nil))
end bB
namespace fR
def S:=so 233 [3] [3] .own [.I] [.O]
theorem aq:Ct S f:=fun k=>c0 8 [ce (cP.aq k)] Tryz.func233
end fR
namespace eQ
def S:=so 234 [3] [3] .own [.I] [.O]
theorem aq:Ct S f:=fun k=>c0 8 [ce (cP.aq k)] Tryz.func234
end eQ
namespace mh
def S:=so 340 [3] [4] .own [.I] [.B]
theorem aq:Ct S f:=fun k=>c0 6 [ce (aO.aq k),ce (fR.aq k)] Tryz.func340
end mh
namespace jq
def S:=so 303 [3,3] [4] .own [.I,.I] [.B]
theorem aq:Ct S f:=fun k=>c0 31 [ce (fR.aq k),ce (eQ.aq k),ce (mh.aq k)] Tryz.func303
end jq
namespace cc
def S:=so 235 [22,3] [4] .own [.V,.I] [.B]
def h5 (k:Nat):Lh S.Y:=⟨5,⟨[.V,.I,.l (.own 0),.I],[.row false .du]⟩,fun K v0 v1 v2 v3=>l5 k v0 v1 (fun p0=>K (.exit 0) (bZ [4,5] [.one (.l (.any)),.one (.l (.own 0))] [some (.row 0 0 (.du p0))])) k v2 v3⟩
theorem aq:Ct S f:=fun k=>c1 93 [ce (cP.aq k),ce (bR.aq k),ce (jq.aq k)] [(5,[0,1,5,6]),(100005,[4,5])] [h5 k] Tryz.func235 (all_cons ((h5 k).fit fun K r v0 v1 v2 v3 h=>fm h (fun a m=>m v0 v1 a.1 a.2) fun _ _ v2 v3=>some (v2,v3)) all_nil)
end cc
namespace kN
def S:=so 147 [31,3,3] [4] .own [.agg .aS ov,.I,.I] [.B]
theorem aq:Ct S f:=fun k=>c0 46 [ce (dz.aq k),ce (cP.aq k),ce (fR.aq k),ce (eQ.aq k),ce (cc.aq k)] Tryz.func147
end kN
namespace cr
def S:=so 77 [33] [22] .own [.agg .aS jV] [.l .own (.ints .i64)]
def h6 (k:Nat):Lh S.Y:=⟨6,⟨[.l (.ptr 0 0),.l (.own 1),.l (.own 2),.I],[.box [.I,.I,.b,.b,.V,.V,.I,.I,.W,.V,.V,.I,.I,.I],.V,.V]⟩,fun K v0 v1 v2 v3 v4 v5 v6 v7 v8 _ _ v11 _ _ _ eZ fq=>l6 k v1 v2 v3 v4 v5 v6 v7 v8 v11 fq (fun p0=>K (.exit 0) (bZ [2,3] [.one (.l (.any)),.one (.l (.own 0))] [some (.row 0 0 (.ints .i64 p0))])) k v0 eZ⟩
theorem aq:Ct S f:=fun k=>c1 51 [ce (bh.aq k),ce (fI.aq k),ce (bB.aq k),ce (kN.aq k)] [(6,[1,3,4,5]),(100006,[2,3])] [h6 k] Tryz.func77 (all_cons ((h6 k).fit fun K r v0 v1 v2 v3 v4 v5 v6 v7 v8 v9 v10 v11 v12 fG fH eZ fq h=>fm h (fun a m=>m a.1 v1 v2 v3 v4 v5 v6 v7 v8 v9 v10 v11 v12 fG fH a.2 fq) fun v0 _ _ _ _ _ _ _ _ _ _ _ _ _ _ eZ _=>some (v0,eZ)) all_nil)
end cr
namespace dN
def S:=so 274 [22,3] [22] .own [.V,.I] [.l .own (.ints .i64)]
def h3 (k:Nat):Lh S.Y:=⟨3,⟨[.V,.I,.l (.own 0),.I],[.V]⟩,fun K v0 v1 v2 v3=>l3 k v0 v1 (fun p0=>K (.exit 0) (bZ [4,5] [.one (.l (.any)),.one (.l (.own 0))] [some (.row 0 0 (.ints .i64 p0))])) k v2 v3⟩
theorem aq:Ct S f:=fun k=>c1 28 [] [(3,[0,1,5,6]),(100003,[4,5])] [h3 k] Tryz.func274 (all_cons ((h3 k).fit fun K r v0 v1 v2 v3 h=>fm h (fun a m=>m v0 v1 a.1 a.2) fun _ _ v2 v3=>some (v2,v3)) all_nil)
end dN
namespace jG
def S:=so 347 [31,3] [4] .own [.agg .aS ov,.I] [.B]
theorem aq:Ct S f:=fun k=>c0 13 [ce (dz.aq k),ce (cc.aq k)] Tryz.func347
end jG
namespace kO
def S:=so 320 [33,3] [33,4] .own [.agg .aS jV,.I] [.agg .own jV,.B]
theorem aq:Ct S f:=fun k=>c0 54 [ce (cr.aq k),ce (eo.aq k),ce (bU.aq k),ce (dN.aq k),ce (jG.aq k)] Tryz.func320
end kO
namespace fA
def S:=so 269 [33,3] [33,4] .own [.agg .aS jV,.I] [.agg .own jV,.B]
theorem aq:Ct S f:=fun k=>c0 17 [ce (b_.aq k),ce (kO.aq k)] Tryz.func269
end fA
namespace cR
def S:=so 219 [33,22] [33,3] .own [.agg .aS jV,.V] [.agg .own jV,.O]
def h3 (k:Nat):Lh S.Y:=⟨3,⟨[.V,.l (.ptr 0 0),.l (.ptr 1 0),.I],[.box [.I,.I,.bc false,.bc false,.nil,.nil,.I,.I,.nil,.nil,.nil,.I,.I,.I],.box [.I,.I,.b,.b,.own 2,.own 3,.I,.I,.own 4,.own 5,.own 6,.I,.I,.I],.V,.V,.W,.V,.V]⟩,fun K v0 v1 v2 v3 v6 v7 v8 v9 v10 v11 v12 fG fH eZ fq gw jF iS v20 v21 iR ij v24=>l3 k v0 (fun p0 p1 p2 p3 p4 p5 p6 p7 p8 p9 Jq Jr Js Jt OB=>K .ret (bZ [1,4,5,6] [.one (.l (.val false (.ints .i64 v0))),.one (.l (.fP 0 0)),.one (.l (.i .i64 p0)),.one (.l (.fP 6 0))] [some (.box 0 [.i .i64 p1,.i .i64 p2,.b p3,.b p4,.own 1,.own 2,.i .i64 p5,.i .i64 p6,.own 3,.own 4,.own 5,.i .i64 p7,.i .i64 p8,.i .i64 p9]),some (.row 0 0 (.ints .i64 Jq)),some (.row 0 0 (.ints .i64 Jr)),some (.row 0 0 (.rows true Js)),some (.row 0 0 (.ints .i64 Jt)),some (.row 0 0 (.ints .i64 OB)),some (.box 0 [.i .i64 p1,.i .i64 p2,.b p3,.b p4,.own 1,.own 2,.i .i64 p5,.i .i64 p6,.own 3,.own 4,.own 5,.i .i64 p7,.i .i64 p8,.i .i64 p9])])) (fun p0 p1 p2 p3 p4 p5 p6 p7 p8 p9 Jq Jr Js Jt=>K (.exit 0) (bZ [1,4,5,6] [.one (.l (.val false (.ints .i64 v0))),.one (.l (.fP 0 0)),.one (.l (.any)),.one (.l (.fP 1 0))] [some (.box 0 [.i .i64 v2,.i .i64 v3,.b false,.b false,.nil,.nil,.i .i64 v6,.i .i64 v7,.nil,.nil,.nil,.i .i64 v8,.i .i64 v9,.i .i64 v10]),some (.box 0 [.i .i64 p0,.i .i64 p1,.b p2,.b p3,.own 2,.own 3,.i .i64 p4,.i .i64 p5,.own 4,.own 5,.own 6,.i .i64 p6,.i .i64 p7,.i .i64 p8]),some (.row 0 0 (.ints .i64 p9)),some (.row 0 0 (.ints .i64 Jq)),some (.row 0 0 (.rows true Jr)),some (.row 0 0 (.ints .i64 Js)),some (.row 0 0 (.ints .i64 Jt))])) k v1 v11 v12 fG fH eZ fq gw jF iS v20 v21 iR ij v24⟩
theorem aq:Ct S f:=fun k=>c1 35 [ce (eo.aq k),ce (fA.aq k)] [(3,[1,4,6,7]),(100003,[1,4,5,6])] [h3 k] Tryz.func219 (all_cons ((h3 k).fit fun K r v0 v1 v2 v3 v6 v7 v8 v9 v10 v11 v12 fG fH eZ fq gw jF iS v20 v21 iR ij v24 h=>fm h (fun a m=>m v0 a.1 v2 v3 v6 v7 v8 v9 v10 a.2.1 (t2 a).1 (t3 a).1 (t4 a).1 (t5 a).1 (t6 a).1 (t7 a).1 (t8 a).1 (t9 a).1 (t9 a.2).1 (t9 (t2 a)).1 (t9 (t3 a)).1 (t9 (t4 a)).1 (t9 (t5 a))) fun _ v1 _ _ _ _ _ _ _ v11 v12 fG fH eZ fq gw jF iS v20 v21 iR ij v24=>some (v1,v11,v12,fG,fH,eZ,fq,gw,jF,iS,v20,v21,iR,ij,v24)) all_nil)
end cR
namespace iL
def S:=so 124 [35] [4] .own [.agg .aS gF] [.B]
theorem aq:Ct S f:=fun k=>c0 86 [ce (dz.aq k),ce (dM.aq k),ce (bf.aq k),ce (hR.aq k),ce (cR.aq k)] Tryz.func124
end iL
namespace cV
def S:Sp:=⟨45,⟨[35,35,4],[35,4],[.mS,.DD,.mS],.own⟩,[.agg .aS gF,.agg .own gF,.l .aS .bool],[.agg .own gF,.B]⟩
theorem aq:Ct S f:=fun k=>c0 23 [ce (bM.aq k),ce (iL.aq k)] Tryz.func45
end cV
namespace fB
def S:=so 70 [35,3] [35,4] .own [.agg .aS gF,.I] [.agg .own gF,.B]
theorem aq:Ct S f:=fun k=>c0 23 [ce (bM.aq k),ce (cV.aq k)] Tryz.func70
end fB
namespace iT
def S:=so 226 [3,3] [3] .own [.I,.I] [.O]
theorem aq:Ct S f:=fun k=>c0 15 [ce (aO.aq k)] Tryz.func226
end iT
namespace e_
def S:=so 137 [22] [3] .own [.V] [.O]
def h3 (k:Nat):Lh S.Y:=⟨3,⟨[.V,.I,.I],[]⟩,fun K v0 v1 v2=>l3 k v0 (fun p0=>K (.exit 0) (bZ [2,3] [.one (.l (.any)),.one (.l (.i .i64 p0))] [])) k v1 v2⟩
theorem aq:Ct S f:=fun k=>c1 22 [ce (iT.aq k)] [(3,[0,3,4]),(100003,[2,3])] [h3 k] Tryz.func137 (all_cons ((h3 k).fit fun K r v0 v1 v2 h=>fm h (fun a m=>m v0 a.1 a.2) fun _ v1 v2=>some (v1,v2)) all_nil)
end e_
namespace d_
def S:=so 71 [3,3,3] [3] .own [.I,.I,.I] [.O]
theorem aq:Ct S f:=fun k=>c0 12 [ce (e_.aq k)] Tryz.func71
end d_
namespace ko
def S:=so 201 [33] [4] .own [.agg .aS jV] [.B]
theorem aq:Ct S f:=fun k=>c0 9 [ce (bh.aq k),ce (fI.aq k)] Tryz.func201
end ko
namespace kp
def S:=so 348 [3] [3] .own [.I] [.O]
theorem aq:Ct S f:=fun k=>c0 17 [ce (eQ.aq k)] Tryz.func348
end kp
namespace eh
def S:=so 322 [22] [3] .own [.V] [.O]
def h3 (k:Nat):Lh S.Y:=⟨3,⟨[.V,.I,.I],[]⟩,fun K v0 v1 v2=>l3 k v0 (fun p0=>K (.exit 0) (bZ [2,3] [.one (.l (.any)),.one (.l (.i .i64 p0))] [])) k v1 v2⟩
theorem aq:Ct S f:=fun k=>c1 19 [ce (kp.aq k)] [(3,[0,3,4]),(100003,[2,3])] [h3 k] Tryz.func322 (all_cons ((h3 k).fit fun K r v0 v1 v2 h=>fm h (fun a m=>m v0 a.1 a.2) fun _ v1 v2=>some (v1,v2)) all_nil)
end eh
namespace cj
def S:=so 280 [33] [22] .own [.agg .aS jV] [.l .own (.ints .i64)]
def h3 (k:Nat):Lh S.Y:=⟨3,⟨[.l (.ptr 0 0),.l (.own 1),.I],[.box [.I,.I,.b,.b,.V,.V,.I,.I,.W,.V,.V,.I,.I,.I],.V]⟩,fun K v0 _ _ _ _ _ _ _ _ v9 _ _ _ _ _ eZ=>l3 k v9 (fun p0=>K (.exit 0) (bZ [2,3] [.one (.l (.any)),.one (.l (.own 0))] [some (.row 0 0 (.ints .i64 p0))])) k v0 eZ⟩
theorem aq:Ct S f:=fun k=>c1 23 [ce (eh.aq k)] [(3,[1,3,4]),(100003,[2,3])] [h3 k] Tryz.func280 (all_cons ((h3 k).fit fun K r v0 v1 v2 v3 v4 v5 v6 v7 v8 v9 v10 v11 v12 fG fH eZ h=>fm h (fun a m=>m a.1 v1 v2 v3 v4 v5 v6 v7 v8 v9 v10 v11 v12 fG fH a.2) fun v0 _ _ _ _ _ _ _ _ _ _ _ _ _ _ eZ=>some (v0,eZ)) all_nil)
end cj
namespace kP
def S:=so 281 [33] [3] .own [.agg .aS jV] [.O]
theorem aq:Ct S f:=fun k=>c0 8 [ce (bh.aq k),ce (cq.aq k)] Tryz.func281
end kP
namespace aW
def S:=so 202 [33] [22] .own [.agg .aS jV] [.l .own (.ints .i64)]
def TD (k:Nat):Lh S.Y:=⟨13,⟨[.l (.ptr 0 0),.l (.own 1),.l (.own 2),.I,.I,.I,.I],[.box [.I,.I,.b,.b,.V,.V,.I,.I,.W,.V,.V,.I,.I,.I],.V,.V]⟩,fun K v0 v1 v2 v3 v4 v5 v6 v7 v8 v9 v10 v11 v12 fG fH eZ fq gw jF iS=>Vf k iS (fun p0=>K (.exit 3) (bZ [1,2,3,4,5,6,7] [.one (.l (.fP 0 0)),.one (.l (.any)),.one (.l (.own 1)),.one (.l (.own 2)),.one (.l (.i .i64 v0)),.one (.l (.i .i64 v1)),.one (.l (.i .i64 p0))] [some (.box 0 [.i .i64 v4,.i .i64 v5,.b v6,.b v7,.val false (.ints .i64 v8),.val false (.ints .i64 v9),.i .i64 v10,.i .i64 v11,.val false (.rows false v12),.val false (.ints .i64 fG),.val false (.ints .i64 fH),.i .i64 eZ,.i .i64 fq,.i .i64 gw]),some (.row 0 0 (.ints .i64 jF)),some (.row 0 0 (.ints .i64 iS))])) k v2 v3⟩
def h5 (k:Nat):Lh S.Y:=⟨5,⟨[.l (.ptr 0 0),.l (.own 1),.l (.own 2),.I,.I],[.box [.I,.I,.b,.b,.V,.V,.I,.I,.W,.V,.V,.I,.I,.I],.V,.V]⟩,fun K v0 v1 v2 v3 v4 v5 v6 v7 v8 v9 v10 v11 v12 fG fH eZ fq gw=>l5 k v0 v2 v3 v4 v5 v6 v7 v8 v9 v10 v11 v12 fG fH eZ gw (fun p0=>K (.exit 0) (bZ [2,3] [.one (.l (.any)),.one (.l (.own 0))] [some (.row 0 0 (.ints .i64 p0))])) k v1 fq⟩
theorem aq:Ct S f:=fun k=>c1 59 [ce (bh.aq k),ce (cj.aq k),ce (kP.aq k)] [(13,[1,3,4,5,6,7,8]),(100013,[1,2,3,4,5,6,7]),(5,[1,3,4,5,6]),(100005,[2,3])] [TD k,h5 k] Tryz.func202 (all_cons ((h5 k).fit fun K r v0 v1 v2 v3 v4 v5 v6 v7 v8 v9 v10 v11 v12 fG fH eZ fq gw h=>fm h (fun a m=>m v0 a.1 v2 v3 v4 v5 v6 v7 v8 v9 v10 v11 v12 fG fH eZ a.2 gw) fun _ v1 _ _ _ _ _ _ _ _ _ _ _ _ _ _ fq _=>some (v1,fq)) (all_cons ((TD k).fit fun K r v0 v1 v2 v3 v4 v5 v6 v7 v8 v9 v10 v11 v12 fG fH eZ fq gw jF iS h=>fm h (fun a m=>m v0 v1 a.1 a.2 v4 v5 v6 v7 v8 v9 v10 v11 v12 fG fH eZ fq gw jF iS) fun _ _ v2 v3 _ _ _ _ _ _ _ _ _ _ _ _ _ _ _ _=>some (v2,v3)) all_nil))
end aW
namespace gg
def S:=so 113 [35] [35,4] .own [.agg .aS gF] [.agg .own gF,.B]
theorem aq:Ct S f:=fun k=>c0 36 [ce (bM.aq k),ce (cV.aq k),ce (ko.aq k),ce (aW.aq k)] Tryz.func113
end gg
namespace jH
def S:=so 354 [3,3,3,3] [4] .own [.I,.I,.I,.I] [.B]
theorem aq:Ct S f:=fun k=>c0 23 [ce (d_.aq k),ce (aO.aq k)] Tryz.func354
end jH
namespace cy
def S:=so 336 [22,22,22] [4] .own [.V,.V,.V] [.B]
def h4 (k:Nat):Lh S.Y:=⟨4,⟨[.V,.V,.V,.I],[]⟩,fun K v0 v1 v2 v3=>l4 k v0 v1 v2 (K .ret (bZ [6] [.one (.l (.b false))] [])) (K (.exit 0) (bZ [6] [.one (.l (.any))] [])) k v3⟩
theorem aq:Ct S f:=fun k=>c1 47 [ce (aO.aq k),ce (jH.aq k)] [(4,[0,1,2,7]),(100004,[6])] [h4 k] Tryz.func336 (all_cons ((h4 k).fit fun K r v0 v1 v2 v3 h=>fm h (fun a m=>m v0 v1 v2 a) fun _ _ _ v3=>some v3) all_nil)
end cy
namespace cu
def S:=so 337 [22,3] [22] .own [.V,.I] [.l .own (.ints .i64)]
def h3 (k:Nat):Lh S.Y:=⟨3,⟨[.I,.l (.own 0),.I],[.V]⟩,fun K v0 v1 v2=>l3 k v0 (fun p0=>K (.exit 0) (bZ [4,5] [.one (.l (.any)),.one (.l (.own 0))] [some (.row 0 0 (.ints .i64 p0))])) k v1 v2⟩
theorem aq:Ct S f:=fun k=>c1 42 [ce (e_.aq k),ce (iT.aq k)] [(3,[1,5,6]),(100003,[4,5])] [h3 k] Tryz.func337 (all_cons ((h3 k).fit fun K r v0 v1 v2 h=>fm h (fun a m=>m v0 a.1 a.2) fun _ v1 v2=>some (v1,v2)) all_nil)
end cu
namespace dO
def S:=so 355 [22] [22] .own [.V] [.l .own (.ints .i64)]
def h3 (k:Nat):Lh S.Y:=⟨3,⟨[.V,.l (.own 0),.I],[.V]⟩,fun K v0 v1 v2=>l3 k v0 (fun p0=>K (.exit 0) (bZ [2,3] [.one (.l (.any)),.one (.l (.own 0))] [some (.row 0 0 (.ints .i64 p0))])) k v1 v2⟩
theorem aq:Ct S f:=fun k=>c1 19 [ce (bU.aq k)] [(3,[0,3,4]),(100003,[2,3])] [h3 k] Tryz.func355 (all_cons ((h3 k).fit fun K r v0 v1 v2 h=>fm h (fun a m=>m v0 a.1 a.2) fun _ v1 v2=>some (v1,v2)) all_nil)
end dO
namespace jI
def S:=so 338 [] [22] .own [] [.l .own (.ints .i64)]
theorem aq:Ct S f:=fun k=>c0 2 [ce (dO.aq k)] Tryz.func338
end jI
namespace cz
def S:=so 339 [22] [3] .own [.V] [.O]
def h3 (k:Nat):Lh S.Y:=⟨3,⟨[.V,.I,.I],[]⟩,fun K v0 v1 v2=>l3 k v0 (fun p0=>K (.exit 0) (bZ [2,3] [.one (.l (.any)),.one (.l (.i .i64 p0))] [])) k v1 v2⟩
theorem aq:Ct S f:=fun k=>c1 20 [ce (iT.aq k)] [(3,[0,3,4]),(100003,[2,3])] [h3 k] Tryz.func339 (all_cons ((h3 k).fit fun K r v0 v1 v2 h=>fm h (fun a m=>m v0 a.1 a.2) fun _ v1 v2=>some (v1,v2)) all_nil)
end cz
namespace iU
def S:=so 301 [22,22,22] [22,4] .own [.V,.V,.V] [.l .own (.ints .i64),.B]
theorem aq:Ct S f:=fun k=>c0 18 [ce (cy.aq k),ce (cu.aq k),ce (jI.aq k),ce (cz.aq k)] Tryz.func301
end iU
namespace jJ
def S:=so 302 [35] [4] .own [.agg .aS gF] [.B]
theorem aq:Ct S f:=fun k=>c0 15 [] Tryz.func302
end jJ
namespace jK
def S:=so 223 [35,22,22] [35,4] .own [.agg .aS gF,.V,.V] [.agg .own gF,.B]
theorem aq:Ct S f:=fun k=>c0 48 [ce (bM.aq k),ce (cV.aq k),ce (hR.aq k),ce (iU.aq k),ce (jJ.aq k)] Tryz.func223
end jK
namespace bC
def S:=so 132 [35,3] [35] .own [.agg .aS gF,.I] [.agg .own gF]
def h4 (k:Nat):Lh S.Y:=⟨4,⟨[.I,.l (.ptr 0 0),.l (.ptr 1 0),.l (.own 2),.l (.own 3),.I],[.box [.I,.I,.b,.b,.V,.V,.I,.I,.V,.b,.V,.I,.I,.b,.b,.V,.V,.I,.I,.W,.V,.V,.I,.I,.I,.V,.W],.box [.I,.I,.bc false,.bc false,.nil,.nil,.I,.I,.nil,.bc false,.nil,.I,.I,.bc false,.bc false,.nil,.nil,.I,.I,.nil,.nil,.nil,.I,.I,.I,.nil,.nil],.V,.V]⟩,fun K v0 v1 v2 v3 v4 v5 v6 v7 v8 v9 v10 v11 v12 fG fH eZ fq gw jF iS v20 v21 iR ij v24 j4 j5 lg v28 n4 v30 yh yi oM v37 v40 Dx Dy Dz DA rq v46=>l4 k v0 (fun p0 p1 p2 p3 p4 p5 p6 p7 p8 p9 Jq Jr Js Jt OB TF TG TH TI TJ TL TM TN TO TP TQ TR Yv Yw=>K (.exit 0) (bZ [2,4,5,6] [.one (.l (.fP 0 0)),.one (.l (.fP 1 0)),.one (.l (.own 2)),.one (.l (.own 3))] [some (.box 0 [.i .i64 p0,.i .i64 p1,.b p2,.b p3,.val false (.ints .i64 p4),.val false (.ints .i64 p5),.i .i64 p6,.i .i64 p7,.val false (.ints .i64 p8),.b p9,.val false (.ints .i64 Jq),.i .i64 Jr,.i .i64 Js,.b Jt,.b OB,.val false (.ints .i64 TF),.val false (.ints .i64 TG),.i .i64 TH,.i .i64 TI,.val false (.rows false TJ),.val false (.ints .i64 TL),.val false (.ints .i64 TM),.i .i64 TN,.i .i64 TO,.i .i64 TP,.val false (.ints .i64 TQ),.val false (.rows false TR)]),some (.box 0 [.i .i64 n4,.i .i64 v30,.b false,.b false,.nil,.nil,.i .i64 yh,.i .i64 yi,.nil,.b false,.nil,.i .i64 oM,.i .i64 v37,.b false,.b false,.nil,.nil,.i .i64 v40,.i .i64 Dx,.nil,.nil,.nil,.i .i64 Dy,.i .i64 Dz,.i .i64 DA,.nil,.nil]),some (.row 0 0 (.ints .i64 Yv)),some (.row 0 0 (.ints .i64 Yw))])) k v1 v2 v3 v4 v5 v6 v7 v8 v9 v10 v11 v12 fG fH eZ fq gw jF iS v20 v21 iR ij v24 j4 j5 lg v28 rq v46⟩
theorem aq:Ct S f:=fun k=>c1 44 [ce (fB.aq k),ce (d_.aq k),ce (jK.aq k)] [(4,[1,2,4,5,6,7]),(100004,[2,4,5,6]),(200004,[2])] [h4 k] Tryz.func132 (all_cons ((h4 k).fit fun K r v0 v1 v2 v3 v4 v5 v6 v7 v8 v9 v10 v11 v12 fG fH eZ fq gw jF iS v20 v21 iR ij v24 j4 j5 lg v28 n4 v30 yh yi oM v37 v40 Dx Dy Dz DA rq v46 h=>fm h (fun a m=>m v0 a.1 a.2.1 (t2 a).1 (t3 a).1 (t4 a).1 (t5 a).1 (t6 a).1 (t7 a).1 (t8 a).1 (t9 a).1 (t9 a.2).1 (t9 (t2 a)).1 (t9 (t3 a)).1 (t9 (t4 a)).1 (t9 (t5 a)).1 (t9 (t6 a)).1 (t9 (t7 a)).1 (t9 (t8 a)).1 (t9 (t9 a)).1 (t9 (t9 a.2)).1 (t9 (t9 (t2 a))).1 (t9 (t9 (t3 a))).1 (t9 (t9 (t4 a))).1 (t9 (t9 (t5 a))).1 (t9 (t9 (t6 a))).1 (t9 (t9 (t7 a))).1 (t9 (t9 (t8 a))).1 (t9 (t9 (t9 a))).1 n4 v30 yh yi oM v37 v40 Dx Dy Dz DA (t9 (t9 (t9 a.2))).1 (t9 (t9 (t9 (t2 a))))) fun _ v1 v2 v3 v4 v5 v6 v7 v8 v9 v10 v11 v12 fG fH eZ fq gw jF iS v20 v21 iR ij v24 j4 j5 lg v28 _ _ _ _ _ _ _ _ _ _ _ rq v46=>some (v1,v2,v3,v4,v5,v6,v7,v8,v9,v10,v11,v12,fG,fH,eZ,fq,gw,jF,iS,v20,v21,iR,ij,v24,j4,j5,lg,v28,rq,v46)) all_nil)
end bC
namespace hU
def S:=so 191 [35,3] [35,4] .own [.agg .aS gF,.I] [.agg .own gF,.B]
theorem aq:Ct S f:=fun k=>c0 36 [ce (bM.aq k),ce (cV.aq k),ce (fA.aq k)] Tryz.func191
end hU
namespace jL
def S:=so 107 [35,3] [35,4] .own [.agg .aS gF,.I] [.agg .own gF,.B]
theorem aq:Ct S f:=fun k=>c0 16 [ce (bM.aq k),ce (cP.aq k),ce (hU.aq k)] Tryz.func107
end jL
namespace iN
def S:=so 112 [35] [35,4] .own [.agg .aS gF] [.agg .own gF,.B]
theorem aq:Ct S f:=fun k=>c0 8 [ce (hU.aq k)] Tryz.func112
end iN
namespace jM
def S:Sp:=⟨133,⟨[84,35],[35],[.io,.mS],.own⟩,[.ptr kV,.agg .aS gF],[.agg .own gF,.ptr kV]⟩
theorem aq:Ct S f:=fun k=>c0 36 [ce (aC.aq k),ce (aQ.aq k),ce (cr.aq k),ce (jL.aq k),ce (iN.aq k)] Tryz.func133
end jM
namespace cA
def S:Sp:=⟨66,⟨[84],[35],[.io],.own⟩,[.ptr kV],[.agg .own gF,.ptr kV]⟩
def N1 (k:Nat):Lh S.Y:=⟨10,⟨[.l (.ptr 0 0),.l (.ptr 1 0),.l (.ptr 2 0),.I,.l (.ptr 0 0)],[.box [.val true false (.ints .u8),.I,.I],.box [.I,.I,.bc false,.bc false,.nil,.nil,.I,.I,.nil,.bc false,.nil,.I,.I,.bc false,.bc false,.nil,.nil,.I,.I,.nil,.nil,.nil,.I,.I,.I,.nil,.nil],.box [.I,.I,.b,.b,.own 3,.own 4,.I,.I,.own 5,.b,.own 6,.I,.I,.b,.b,.own 7,.own 8,.I,.I,.own 9,.own 10,.own 11,.I,.I,.I,.own 12,.own 13],.V,.V,.V,.V,.V,.V,.W,.V,.V,.V,.W]⟩,fun K v0 v1 v2 v3 v4 v5 v8 v9 v11 v12 eZ fq gw jF iS v20 v21 iR ij v24 j4 j5 lg v28 n4 v30 v31 Dv yh yi Dw oM v37 jh qG v40 Dx Dy Dz DA rq v46=>l10 k (fun p0 p1 p2 p3 p4 p5 p6 p7 p8 p9 Jq Jr Js Jt OB TF TG TH TI TJ TL TM TN TO TP TQ TR Yv Yw p29=>K (.exit 0) (bZ [0,2,4,50] [.one (.l (.fP 0 0)),.one (.l (.fP 1 0)),.one (.l (.fP 2 0)),.one (.l (.fP 0 0))] [some (.box 0 [.val true (.ints .u8 p0),.i .i64 p1,.i .i64 p2]),some (.box 0 [.i .i64 v4,.i .i64 v5,.b false,.b false,.nil,.nil,.i .i64 v8,.i .i64 v9,.nil,.b false,.nil,.i .i64 v11,.i .i64 v12,.b false,.b false,.nil,.nil,.i .i64 eZ,.i .i64 fq,.nil,.nil,.nil,.i .i64 gw,.i .i64 jF,.i .i64 iS,.nil,.nil]),some (.box 0 [.i .i64 p3,.i .i64 p4,.b p5,.b p6,.own 3,.own 4,.i .i64 p7,.i .i64 p8,.own 5,.b p9,.own 6,.i .i64 Jq,.i .i64 Jr,.b Js,.b Jt,.own 7,.own 8,.i .i64 OB,.i .i64 TF,.own 9,.own 10,.own 11,.i .i64 TG,.i .i64 TH,.i .i64 TI,.own 12,.own 13]),some (.row 0 0 (.ints .i64 TJ)),some (.row 0 0 (.ints .i64 TL)),some (.row 0 0 (.ints .i64 TM)),some (.row 0 0 (.ints .i64 TN)),some (.row 0 0 (.ints .i64 TO)),some (.row 0 0 (.ints .i64 TP)),some (.row 0 0 (.rows true TQ)),some (.row 0 0 (.ints .i64 TR)),some (.row 0 0 (.ints .i64 Yv)),some (.row 0 0 (.ints .i64 Yw)),some (.row 0 0 (.rows true p29))])) k v0 v1 v2 v3 v20 v21 iR ij v24 j4 j5 lg v28 n4 v30 v31 Dv yh yi Dw oM v37 jh qG v40 Dx Dy Dz DA rq v46⟩
theorem aq:Ct S f:=fun k=>c1 50 [ce (aC.aq k),ce (fx.aq k),ce (hJ.aq k),ce (fB.aq k),ce (d_.aq k),ce (aQ.aq k),ce (gg.aq k),ce (bC.aq k),ce (jM.aq k)] [(10,[0,2,4,6,50]),(100010,[0,2,4,50])] [N1 k] Tryz.func66 (all_cons ((N1 k).fit fun K r v0 v1 v2 v3 v4 v5 v8 v9 v11 v12 eZ fq gw jF iS v20 v21 iR ij v24 j4 j5 lg v28 n4 v30 v31 Dv yh yi Dw oM v37 jh qG v40 Dx Dy Dz DA rq v46 h=>fm h (fun a m=>m a.1 a.2.1 (t2 a).1 (t3 a).1 v4 v5 v8 v9 v11 v12 eZ fq gw jF iS (t4 a).1 (t5 a).1 (t6 a).1 (t7 a).1 (t8 a).1 (t9 a).1 (t9 a.2).1 (t9 (t2 a)).1 (t9 (t3 a)).1 (t9 (t4 a)).1 (t9 (t5 a)).1 (t9 (t6 a)).1 (t9 (t7 a)).1 (t9 (t8 a)).1 (t9 (t9 a)).1 (t9 (t9 a.2)).1 (t9 (t9 (t2 a))).1 (t9 (t9 (t3 a))).1 (t9 (t9 (t4 a))).1 (t9 (t9 (t5 a))).1 (t9 (t9 (t6 a))).1 (t9 (t9 (t7 a))).1 (t9 (t9 (t8 a))).1 (t9 (t9 (t9 a))).1 (t9 (t9 (t9 a.2))).1 (t9 (t9 (t9 (t2 a)))).1 (t9 (t9 (t9 (t3 a))))) fun v0 v1 v2 v3 _ _ _ _ _ _ _ _ _ _ _ v20 v21 iR ij v24 j4 j5 lg v28 n4 v30 v31 Dv yh yi Dw oM v37 jh qG v40 Dx Dy Dz DA rq v46=>some (v0,v1,v2,v3,v20,v21,iR,ij,v24,j4,j5,lg,v28,n4,v30,v31,Dv,yh,yi,Dw,oM,v37,jh,qG,v40,Dx,Dy,Dz,DA,rq,v46)) all_nil)
end cA
namespace mP
def S:=so 96 [] [31] .own [] [.agg .own ov]
theorem aq:Ct S f:=fun k=>c0 4 [] Tryz.func96
end mP
namespace mi
def S:Sp:=⟨165,⟨[84,57],[9],[.io,.mS],.own⟩,[.ptr kV,.l .aS .strs],[.l .own .str,.ptr kV]⟩
theorem aq:Ct S f:=fun k=>c0 12 [ce (aC.aq k)] Tryz.func165
end mi
namespace gI
def S:Sp:=⟨97,⟨[84],[9],[.io],.own⟩,[.ptr kV],[.l .own .str,.ptr kV]⟩
theorem aq:Ct S f:=fun k=>c0 6 [ce (mi.aq k)] Tryz.func97
end gI
namespace eR
def S:Sp:=⟨30,⟨[42],[35,9],[.fL],.own⟩,[.l .fL (.ints .u8)],[.agg .own gF,.l .own .str]⟩
theorem aq:Ct S f:=fun k=>c0 20 [ce (dU.aq k),ce (cA.aq k),ce (fx.aq k),ce (aQ.aq k),ce (mP.aq k),ce (gI.aq k)] Tryz.func30
end eR
namespace az
def S:Sp:=⟨32,⟨[42],[9],[.fL],.own⟩,[.l .fL (.ints .u8)],[.l .own .str]⟩
def h5 (k:Nat):Lh S.Y:=⟨5,⟨[.l (.s),.I],[]⟩,fun K v0 v1=>l5 k (fun p0=>K (.exit 0) (bZ [2,4] [.one (.l (.any)),.one (.l (.s p0))] [])) k v0 v1⟩
def Ji (k:Nat):Lh S.Y:=⟨12,⟨[.l (.ptr 0 0),.l (.s),.I],[.box [.val true false (.ints .u8),.I,.I]]⟩,fun K v0 v1 v2 v3 v4=>G0 k (fun p0=>K (.exit 2) (bZ [2,4] [.one (.l (.any)),.one (.l (.s p0))] [])) k v0 v1 v2 v3 v4⟩
theorem aq:Ct S f:=fun k=>c1 33 [ce (dU.aq k),ce (aC.aq k),ce (aQ.aq k),ce (gI.aq k)] [(5,[4,5]),(100005,[2,4]),(12,[3,4,6]),(100012,[2,4])] [h5 k,Ji k] Tryz.func32 (all_cons ((h5 k).fit fun K r v0 v1 h=>fm h (fun a m=>m a.1 a.2) fun v0 v1=>some (v0,v1)) (all_cons ((Ji k).fit fun K r v0 v1 v2 v3 v4 h=>fm h (fun a m=>m a.1 a.2.1 (t2 a).1 (t3 a).1 (t4 a)) fun v0 v1 v2 v3 v4=>some (v0,v1,v2,v3,v4)) all_nil))
end az
namespace bw
def S:=so 33 [9] [57,4] .own [.l .aS .str] [.l .own .strs,.B]
def h8 (k:Nat):Lh S.Y:=⟨8,⟨[.l (.ptr 0 0),.l (.own 12),.l (.val false false .strs),.I,.I],[.box [.I,.I,.b,.b,.own 1,.own 2,.I,.I,.own 3,.b,.own 4,.I,.I,.b,.b,.own 5,.own 6,.I,.I,.own 7,.own 8,.own 9,.I,.I,.I,.own 10,.own 11],.V,.V,.V,.V,.V,.V,.W,.V,.V,.V,.W,.row false .strs]⟩,fun K v0 v1 v2 v3 v4 v5 v6 v7 v8 v9 v10 v11 v12 fG fH eZ fq gw jF iS v20 v21 iR ij v24 j4 j5 lg v28 n4 v30=>l8 k v0 v1 (fun p0=>K (.exit 0) (bZ [2,3,6] [.one (.l (.any)),.one (.l (.any)),.one (.l (.own 0))] [some (.row 0 0 (.strs p0))])) k v2 v3 v4 v5 v6 v7 v8 v9 v10 v11 v12 fG fH eZ fq gw jF iS v20 v21 iR ij v24 j4 j5 lg v28 n4 v30⟩
theorem aq:Ct S f:=fun k=>c1 49 [ce (cL.aq k),ce (a_.aq k)] [(8,[5,6,30,31,32]),(100008,[2,3,6]),(200008,[30,1000016389,1000020485,1000032773,1000040965,1000061445,1000065541,1000081925,1000086021,1000102405,1001126405,1001155077])] [h8 k] Tryz.func33 (all_cons ((h8 k).fit fun K r v0 v1 v2 v3 v4 v5 v6 v7 v8 v9 v10 v11 v12 fG fH eZ fq gw jF iS v20 v21 iR ij v24 j4 j5 lg v28 n4 v30 h=>fm h (fun a m=>m v0 v1 a.1 a.2.1 (t2 a).1 (t3 a).1 (t4 a).1 (t5 a).1 (t6 a).1 (t7 a).1 (t8 a).1 (t9 a).1 (t9 a.2).1 (t9 (t2 a)).1 (t9 (t3 a)).1 (t9 (t4 a)).1 (t9 (t5 a)).1 (t9 (t6 a)).1 (t9 (t7 a)).1 (t9 (t8 a)).1 (t9 (t9 a)).1 (t9 (t9 a.2)).1 (t9 (t9 (t2 a))).1 (t9 (t9 (t3 a))).1 (t9 (t9 (t4 a))).1 (t9 (t9 (t5 a))).1 (t9 (t9 (t6 a))).1 (t9 (t9 (t7 a))).1 (t9 (t9 (t8 a))).1 (t9 (t9 (t9 a))).1 (t9 (t9 (t9 a.2)))) fun _ _ v2 v3 v4 v5 v6 v7 v8 v9 v10 v11 v12 fG fH eZ fq gw jF iS v20 v21 iR ij v24 j4 j5 lg v28 n4 v30=>some (v2,v3,v4,v5,v6,v7,v8,v9,v10,v11,v12,fG,fH,eZ,fq,gw,jF,iS,v20,v21,iR,ij,v24,j4,j5,lg,v28,n4,v30)) all_nil)
end bw
namespace aM
def S:Sp:=⟨5,⟨[42],[4],[.fL],.own⟩,[.l .fL (.ints .u8)],[.B]⟩
def h8 (k:Nat):Lh S.Y:=⟨8,⟨[.l (.val true false (.ints .u8)),.l (.ptr 0 0),.l (.own 12),.I,.I],[.box [.I,.I,.b,.b,.own 1,.own 2,.I,.I,.own 3,.b,.own 4,.I,.I,.b,.b,.own 5,.own 6,.I,.I,.own 7,.own 8,.own 9,.I,.I,.I,.own 10,.own 11],.V,.V,.V,.V,.V,.V,.W,.V,.V,.V,.W,.row false .strs]⟩,fun K v0 v1 v2 v3 v4 v5 v6 v7 v8 v9 v10 v11 v12 fG fH eZ fq gw jF iS v20 v21 iR ij v24 j4 j5 lg v28 n4 v30=>l8 k v1 v3 v4 v5 v6 v7 v8 v9 v10 v11 v12 fG fH eZ fq gw jF iS v20 v21 iR ij v24 j4 j5 lg v28 n4 v30 (K .ret (bZ [0,2] [.one (.l (.val true (.ints .u8 v0))),.one (.l (.b false))] [])) (K (.exit 0) (bZ [0,2] [.one (.l (.val true (.ints .u8 v0))),.one (.l (.any))] [])) k v2⟩
def XU (k:Nat):Lh S.Y:=⟨18,⟨[.l (.s),.l (.own 0),.l (.b),.I,.I],[.row false .strs]⟩,fun K v0 v1 v2 v3 v4=>To k v0 (fun p0=>K (.exit 2) (bZ [2,12,13,14] [.one (.l (.any)),.one (.l (.own 0)),.one (.l (.b v1)),.one (.l (.i .i64 p0))] [some (.row 0 0 (.strs v4))])) k v2 v3⟩
theorem aq:Ct S f:=fun k=>c1 101 [ce (wG.aq k),ce (eY.aq k),ce (eR.aq k),ce (cL.aq k),ce (az.aq k),ce (bw.aq k)] [(8,[0,5,41,42,43]),(100008,[0,2]),(18,[11,12,13,14,15]),(100018,[2,12,13,14])] [h8 k,XU k] Tryz.func5 (all_cons ((h8 k).fit fun K r v0 v1 v2 v3 v4 v5 v6 v7 v8 v9 v10 v11 v12 fG fH eZ fq gw jF iS v20 v21 iR ij v24 j4 j5 lg v28 n4 v30 h=>fm h (fun a m=>m v0 v1 a v3 v4 v5 v6 v7 v8 v9 v10 v11 v12 fG fH eZ fq gw jF iS v20 v21 iR ij v24 j4 j5 lg v28 n4 v30) fun _ _ v2 _ _ _ _ _ _ _ _ _ _ _ _ _ _ _ _ _ _ _ _ _ _ _ _ _ _ _ _=>some v2) (all_cons ((XU k).fit fun K r v0 v1 v2 v3 v4 h=>fm h (fun a m=>m v0 v1 a.1 a.2 v4) fun _ _ v2 v3 _=>some (v2,v3)) all_nil))
end aM
end Go.Proofs.YtbmmhdmljajcfaaGreatDoor
