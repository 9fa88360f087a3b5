/- That the Go functions come to the answers of the plain ones. Printed by a program. -/
import Derived.Test.YtbmmhdmljajcfaaGreatDoorT
import Derived.Test.YtbmmhdmljajcfaaGreatDoorFSpecConsoleLine
set_option linter.unusedVariables false
set_option maxRecDepth 100000
set_option maxHeartbeats 20000000
namespace Go.Proofs.YtbmmhdmljajcfaaGreatDoor
open Go V M Go.Proofs.Tryz
namespace gf
def S:=so 117 [31] [31] .own [.agg .bi Ps] [.agg .own Ps]
theorem aB:Ct S f:=fun k=>c0 14 [] func117
end gf
namespace gM
def S:=so 119 [25] [25] .own [.l .bi .rows] [.l .own .rows]
def h3 (k:Nat):Lh S.Y:=⟨3,⟨[.W,.l (.own 0),.I],[.W]⟩,fun K v0 v1 v2=>l3 k v0 (fun p0=>K (.exit 0) (bZ [2,3] [.N,.O 0] [oW p0])) k v1 v2⟩
theorem aB:Ct S f:=fun k=>c1 22 [] [(3,[0,3,4]),(100003,[2,3])] [h3 k] func119 (all_cons ((h3 k).fit fun K r v0 v1 v2 h=>fm h (fun a m=>m v0 a.1 a.2) fun _ v1 v2=>some (v1,v2)) all_nil)
end gM
namespace gg
def S:=so 118 [33] [33] .own [.agg .bi Dt] [.agg .own Dt]
theorem aB:Ct S f:=fun k=>c0 24 [ce (gf.aB k),ce (gM.aB k)] func118
end gg
namespace bm
def S:=so 43 [35] [35] .own [.agg .bi qU] [.agg .own qU]
theorem aB:Ct S f:=fun k=>c0 27 [ce (gf.aB k),ce (gg.aB k),ce (gM.aB k)] func43
end bm
namespace bb
def S:=so 213 [3,3,3] [4] .own [.I,.I,.I] [.B]
theorem aB:Ct S f:=fun k=>c0 15 [] func213
end bb
namespace mV
def S:=so 328 [3] [4] .own [.I] [.B]
theorem aB:Ct S f:=fun k=>c0 17 [ce (bb.aB k)] func328
end mV
namespace dP
def S:=so 290 [22] [4] .own [.V] [.B]
def h3 (k:Nat):Lh S.Y:=⟨3,⟨[.V,.I,.I],[]⟩,fun K v0 v1 v2=>l3 k v0 (fun p0=>K .ret (bZ [0,2,3] [.V v0,.Q false,.J p0] [])) (fun p0=>K (.exit 0) (bZ [0,2,3] [.V v0,.N,.J p0] [])) k v1 v2⟩
theorem aB:Ct S f:=fun k=>c1 55 [ce (mV.aB k)] [(3,[0,3,4]),(100003,[0,2,3])] [h3 k] func290 (all_cons ((h3 k).fit fun K r v0 v1 v2 h=>fm h (fun a m=>m v0 a.1 a.2) fun _ v1 v2=>some (v1,v2)) all_nil)
end dP
namespace gr
def S:=so 224 [22] [4] .own [.V] [.B]
theorem aB:Ct S f:=fun k=>c0 10 [ce (dP.aB k)] func224
end gr
namespace dm
def S:=so 135 [31] [4] .own [.agg .bi Ps] [.B]
theorem aB:Ct S f:=fun k=>c0 39 [ce (bb.aB k),ce (gr.aB k)] func135
end dm
namespace nC
def S:=so 68 [31] [35,4] .own [.agg .bi Ps] [.agg .own qU,.B]
theorem aB:Ct S f:=fun k=>c0 11 [ce (gf.aB k),ce (dm.aB k)] func68
end nC
namespace lh
def S:=so 96 [] [31] .own [] [.agg .own Ps]
theorem aB:Ct S f:=fun k=>c0 4 [] func96
end lh
namespace dY
def S:=so 105 [9] [57] .own [.l .bi .str] [.l .own .strs]
def h4 (k:Nat):Lh S.Y:=⟨4,⟨[.l (.s),.l (.own 0),.l (.s),.I],[.row false .strs]⟩,fun K v0 v1 v2 v3=>l4 k v0 (fun p0=>K (.exit 0) (bZ [2,3] [.N,.O 0] [oS p0])) k v1 v2 v3⟩
theorem aB:Ct S f:=fun k=>c1 37 [] [(4,[0,3,4,5]),(100004,[2,3])] [h4 k] func105 (all_cons ((h4 k).fit fun K r v0 v1 v2 v3 h=>fm h (fun a m=>m v0 a.1 a.2.1 (t2 a)) fun _ v1 v2 v3=>some (v1,v2,v3)) all_nil)
end dY
namespace cc
def S:=so 190 [3] [4] .own [.I] [.B]
theorem aB:Ct S f:=fun k=>c0 5 [ce (bb.aB k)] func190
end cc
namespace bP
def S:=so 233 [3] [3] .own [.I] [.O]
theorem aB:Ct S f:=fun k=>c0 8 [ce (cc.aB k)] func233
end bP
namespace eh
def S:=so 234 [3] [3] .own [.I] [.O]
theorem aB:Ct S f:=fun k=>c0 8 [ce (cc.aB k)] func234
end eh
namespace dZ
def S:=so 189 [3] [9] .own [.I] [.l .own .str]
theorem aB:Ct S f:=fun k=>c0 21 [ce (cc.aB k),ce (bP.aB k),ce (eh.aB k)] func189
end dZ
namespace dQ
def S:=so 106 [9] [3] .own [.l .bi .str] [.O]
def h2 (k:Nat):Lh S.Y:=⟨2,⟨[.l (.s),.I],[]⟩,fun K v0 v1=>l2 k v0 (fun p0=>K .ret (bZ [2] [.J p0] [])) (K (.exit 0) (bZ [2] [.N] [])) k v1⟩
theorem aB:Ct S f:=fun k=>c1 13 [ce (dZ.aB k)] [(2,[0,3]),(100002,[2])] [h2 k] func106 (all_cons ((h2 k).fit fun K r v0 v1 h=>fm h (fun a m=>m v0 a) fun _ v1=>some v1) all_nil)
end dQ
namespace jq
def S:=so 292 [3,22] [4] .own [.I,.V] [.B]
def h3 (k:Nat):Lh S.Y:=⟨3,⟨[.I,.V,.I,.I],[]⟩,fun K v0 v1 v2 v3=>l3 k v1 (fun p0=>K .ret (bZ [0,1,4,5] [.J v0,.V v1,.Q false,.J p0] [])) (fun p0=>K (.exit 0) (bZ [0,1,4,5] [.J v0,.V v1,.N,.J p0] [])) k v2 v3⟩
theorem aB:Ct S f:=fun k=>c1 37 [ce (bb.aB k)] [(3,[0,1,5,6]),(100003,[0,1,4,5])] [h3 k] func292 (all_cons ((h3 k).fit fun K r v0 v1 v2 v3 h=>fm h (fun a m=>m v0 v1 a.1 a.2) fun _ _ v2 v3=>some (v2,v3)) all_nil)
end jq
namespace fo
def S:=so 216 [3,25] [4] .own [.I,.l .bi .rows] [.B]
def h2 (k:Nat):Lh S.Y:=⟨2,⟨[.I,.W,.I],[]⟩,fun K v0 v1 v2=>l2 k v0 v1 (K .ret (bZ [0,1,4] [.J v0,.W v1,.Q false] [])) (K (.exit 0) (bZ [0,1,4] [.J v0,.W v1,.N] [])) k v2⟩
theorem aB:Ct S f:=fun k=>c1 26 [ce (bb.aB k),ce (jq.aB k)] [(2,[0,1,5]),(100002,[0,1,4])] [h2 k] func216 (all_cons ((h2 k).fit fun K r v0 v1 v2 h=>fm h (fun a m=>m v0 v1 a) fun _ _ v2=>some v2) all_nil)
end fo
namespace cP
def S:=so 293 [22,22] [4] .own [.V,.V] [.B]
def h4 (k:Nat):Lh S.Y:=⟨4,⟨[.V,.V,.I],[]⟩,fun K v0 v1 v2=>l4 k v0 v1 (K .ret (bZ [4] [.Q false] [])) (K (.exit 0) (bZ [4] [.N] [])) k v2⟩
theorem aB:Ct S f:=fun k=>c1 26 [] [(4,[0,1,5]),(100004,[4])] [h4 k] func293 (all_cons ((h4 k).fit fun K r v0 v1 v2 h=>fm h (fun a m=>m v0 v1 a) fun _ _ v2=>some v2) all_nil)
end cP
namespace iD
def S:=so 294 [31,31] [4] .own [.agg .bi Ps,.agg .bi Ps] [.B]
theorem aB:Ct S f:=fun k=>c0 59 [ce (cP.aB k)] func294
end iD
namespace dq
def S:=so 217 [33,33] [4] .own [.agg .bi Dt,.agg .bi Dt] [.B]
def h4 (k:Nat):Lh S.Y:=⟨4,⟨[.l (.ptr 0 0),.l (.ptr 1 0),.I],[.box [.I,.I,.b,.b,.V,.V,.I,.I,.W,.V,.V,.I,.I,.I],.box [.I,.I,.b,.b,.V,.V,.I,.I,.W,.V,.V,.I,.I,.I]]⟩,fun K v0 v1 v2 v3 v4 v5 v6 v7 v8 v9 v10 v11 v12 jD jE jd jT kL nH nz v20 v21 nI mT v24 pO pP tc v28=>l4 k v9 mT (K .ret (bZ [2,3,4] [.one (.l (.je 0 0)),.one (.l (.je 1 0)),.Q false] [some (.box 0 [.J v1,.J v2,.b v3,.b v4,.V v5,.V v6,.J v7,.J v8,.W v9,.V v10,.V v11,.J v12,.J jD,.J jE]),some (.box 0 [.J jd,.J jT,.b kL,.b nH,.V nz,.V v20,.J v21,.J nI,.W mT,.V v24,.V pO,.J pP,.J tc,.J v28])])) (K (.exit 0) (bZ [2,3,4] [.one (.l (.je 0 0)),.one (.l (.je 1 0)),.N] [some (.box 0 [.J v1,.J v2,.b v3,.b v4,.V v5,.V v6,.J v7,.J v8,.W v9,.V v10,.V v11,.J v12,.J jD,.J jE]),some (.box 0 [.J jd,.J jT,.b kL,.b nH,.V nz,.V v20,.J v21,.J nI,.W mT,.V v24,.V pO,.J pP,.J tc,.J v28])])) k v0⟩
theorem aB:Ct S f:=fun k=>c1 72 [ce (cP.aB k),ce (iD.aB k)] [(4,[2,3,5]),(100004,[2,3,4])] [h4 k] func217 (all_cons ((h4 k).fit fun K r v0 v1 v2 v3 v4 v5 v6 v7 v8 v9 v10 v11 v12 jD jE jd jT kL nH nz v20 v21 nI mT v24 pO pP tc v28 h=>fm h (fun a m=>m a v1 v2 v3 v4 v5 v6 v7 v8 v9 v10 v11 v12 jD jE jd jT kL nH nz v20 v21 nI mT v24 pO pP tc v28) fun v0 _ _ _ _ _ _ _ _ _ _ _ _ _ _ _ _ _ _ _ _ _ _ _ _ _ _ _ _=>some v0) all_nil)
end dq
namespace cW
def S:=so 272 [22,3] [4] .own [.V,.I] [.B]
def h2 (k:Nat):Lh S.Y:=⟨2,⟨[.V,.I,.I],[]⟩,fun K v0 v1 v2=>l2 k v0 v1 (K .ret (bZ [4] [.Q true] [])) (K (.exit 0) (bZ [4] [.N] [])) k v2⟩
theorem aB:Ct S f:=fun k=>c1 18 [] [(2,[0,1,5]),(100002,[4])] [h2 k] func272 (all_cons ((h2 k).fit fun K r v0 v1 v2 h=>fm h (fun a m=>m v0 v1 a) fun _ _ v2=>some v2) all_nil)
end cW
namespace bQ
def S:=so 231 [22] [4] .own [.V] [.B]
def h2 (k:Nat):Lh S.Y:=⟨2,⟨[.V,.I],[]⟩,fun K v0 v1=>l2 k v0 (K .ret (bZ [2] [.Q false] [])) (K (.exit 0) (bZ [2] [.N] [])) k v1⟩
theorem aB:Ct S f:=fun k=>c1 26 [ce (cc.aB k),ce (cW.aB k)] [(2,[0,3]),(100002,[2])] [h2 k] func231 (all_cons ((h2 k).fit fun K r v0 v1 h=>fm h (fun a m=>m v0 a) fun _ v1=>some v1) all_nil)
end bQ
namespace gz
def S:=so 295 [22,3,3] [25,22,4] .own [.V,.I,.I] [.l .own .rows,.l .own (.ints .i64),.B]
def h9 (k:Nat):Lh S.Y:=⟨9,⟨[.V,.I,.I,.l (.own 0),.I,.l (.own 1),.I],[.W,.V]⟩,fun K v0 v1 v2 v3 v4 v5 v6=>l9 k v0 v1 v2 v3 (fun p0=>K (.exit 2) (bZ [0,1,2,6,7,8,9,10,11] [.V v0,.J v1,.J v2,.N,.N,.N,.O 0,.J v3,.O 1] [oW v5,oV p0])) k v4 v6⟩
def h5 (k:Nat):Lh S.Y:=⟨5,⟨[.V,.I,.I,.l (.own 0),.I],[.W]⟩,fun K v0 v1 v2 v3 v4=>l5 k v0 v1 v2 (fun p0=>K (.exit 0) (bZ [0,1,2,6,7,8,9] [.V v0,.J v1,.J v2,.N,.N,.N,.O 0] [oW p0])) k v3 v4⟩
theorem aB:Ct S f:=fun k=>c1 73 [ce (bb.aB k),ce (bQ.aB k)] [(9,[0,1,2,9,10,11,12]),(100009,[0,1,2,6,7,8,9,10,11]),(5,[0,1,2,9,10]),(100005,[0,1,2,6,7,8,9])] [h9 k,h5 k] func295 (all_cons ((h5 k).fit fun K r v0 v1 v2 v3 v4 h=>fm h (fun a m=>m v0 v1 v2 a.1 a.2) fun _ _ _ v3 v4=>some (v3,v4)) (all_cons ((h9 k).fit fun K r v0 v1 v2 v3 v4 v5 v6 h=>fm h (fun a m=>m v0 v1 v2 v3 a.1 v5 a.2) fun _ _ _ _ v4 _ v6=>some (v4,v6)) all_nil))
end gz
namespace kp
def S:=so 218 [31,22] [33,4] .own [.agg .bi Ps,.V] [.agg .own Dt,.B]
theorem aB:Ct S f:=fun k=>c0 45 [ce (gf.aB k),ce (dm.aB k),ce (bQ.aB k),ce (gz.aB k)] func218
end kp
namespace cq
def S:=so 144 [33] [4] .own [.agg .bi Dt] [.B]
def h5 (k:Nat):Lh S.Y:=⟨5,⟨[.l (.ptr 0 0),.l (.own 1),.I],[.box [.I,.I,.b,.b,.V,.V,.I,.I,.W,.V,.V,.I,.I,.I],.V]⟩,fun K v0 _ _ _ _ _ _ _ _ v9 _ _ _ _ _ jd=>l5 k v9 (fun p0=>K (.exit 0) (bZ [2,3] [.N,.O 0] [oV p0])) k v0 jd⟩
theorem aB:Ct S f:=fun k=>c1 79 [ce (dm.aB k),ce (bb.aB k),ce (bQ.aB k)] [(5,[1,3,4]),(100005,[2,3])] [h5 k] func144 (all_cons ((h5 k).fit fun K r v0 v1 v2 v3 v4 v5 v6 v7 v8 v9 v10 v11 v12 jD jE jd h=>fm h (fun a m=>m a.1 v1 v2 v3 v4 v5 v6 v7 v8 v9 v10 v11 v12 jD jE a.2) fun v0 _ _ _ _ _ _ _ _ _ _ _ _ _ _ jd=>some (v0,jd)) all_nil)
end cq
namespace fM
def S:=so 232 [33] [3] .own [.agg .bi Dt] [.O]
def h2 (k:Nat):Lh S.Y:=⟨2,⟨[.l (.ptr 0 0),.I],[.box [.I,.I,.b,.b,.V,.V,.I,.I,.W,.V,.V,.I,.I,.I]]⟩,fun K v0 _ _ _ _ _ _ _ _ v9 _ _ _ _ _=>l2 k v9 (fun p0=>K .ret (bZ [2] [.J p0] [])) (K (.exit 0) (bZ [2] [.N] [])) k v0⟩
theorem aB:Ct S f:=fun k=>c1 19 [] [(2,[1,3]),(100002,[2])] [h2 k] func232 (all_cons ((h2 k).fit fun K r v0 v1 v2 v3 v4 v5 v6 v7 v8 v9 v10 v11 v12 jD jE h=>fm h (fun a m=>m a v1 v2 v3 v4 v5 v6 v7 v8 v9 v10 v11 v12 jD jE) fun v0 _ _ _ _ _ _ _ _ _ _ _ _ _ _=>some v0) all_nil)
end fM
namespace iR
def S:=so 145 [33] [4] .own [.agg .bi Dt] [.B]
theorem aB:Ct S f:=fun k=>c0 22 [ce (fM.aB k)] func145
end iR
namespace fH
def S:=so 319 [33] [33,4] .own [.agg .bi Dt] [.agg .own Dt,.B]
def h6 (k:Nat):Lh S.Y:=⟨6,⟨[.l (.ptr 0 0),.l (.ptr 1 0),.l (.ptr 2 0),.I,.I],[.box [.I,.I,.b,.b,.V,.V,.I,.I,.W,.V,.V,.I,.I,.I],.box [.I,.I,.bc false,.bc false,.nil,.nil,.I,.I,.nil,.nil,.nil,.I,.I,.I],.box [.I,.I,.b,.b,.own 3,.own 4,.I,.I,.own 5,.own 6,.own 7,.I,.I,.I],.V,.V,.W,.V,.V]⟩,fun K v0 v1 v2 v3 v4 v5 v6 v7 v8 v9 v10 v11 v12 jD jE jd jT kL v20 v21 nI mT v24 pO pP tc v28 wX v30 v31 R8 Nk R9 R_ Au v37 oQ=>l6 k v8 jD (fun p0 p1 p2 p3=>K (.exit 0) (bZ [1,2,3,4,5] [.one (.l (.je 0 0)),.one (.l (.je 1 0)),.N,.one (.l (.je 2 0)),.J p0] [some (.box 0 [.J v2,.J v3,.b v4,.b v5,.V v6,.V v7,.J v8,.J v9,.W v10,.V v11,.V v12,.J jD,.J jE,.J jd]),some (.box 0 [.J jT,.J kL,.b false,.b false,.nil,.nil,.J v20,.J v21,.nil,.nil,.nil,.J nI,.J mT,.J v24]),some (.box 0 [.J pO,.J pP,.b tc,.b v28,.own 3,.own 4,.J wX,.J v30,.own 5,.own 6,.own 7,.J v31,.J R8,.J Nk]),oV R9,oV R_,oW p1,oV p2,oV p3])) k v0 v1 Au v37 oQ⟩
theorem aB:Ct S f:=fun k=>c1 97 [ce (gg.aB k),ce (cq.aB k),ce (iR.aB k)] [(6,[1,2,4,5,6]),(100006,[1,2,3,4,5])] [h6 k] func319 (all_cons ((h6 k).fit fun K r v0 v1 v2 v3 v4 v5 v6 v7 v8 v9 v10 v11 v12 jD jE jd jT kL v20 v21 nI mT v24 pO pP tc v28 wX v30 v31 R8 Nk R9 R_ Au v37 oQ h=>fm h (fun a m=>m a.1 a.2.1 v2 v3 v4 v5 v6 v7 v8 v9 v10 v11 v12 jD jE jd jT kL v20 v21 nI mT v24 pO pP tc v28 wX v30 v31 R8 Nk R9 R_ (p2 a) (p3 a) (t4 a)) fun v0 v1 _ _ _ _ _ _ _ _ _ _ _ _ _ _ _ _ _ _ _ _ _ _ _ _ _ _ _ _ _ _ _ _ Au v37 oQ=>some (v0,v1,Au,v37,oQ)) all_nil)
end fH
namespace eK
def S:=so 146 [22] [22] .own [.V] [.l .own (.ints .i64)]
def h6 (k:Nat):Lh S.Y:=⟨6,⟨[.V,.l (.own 0),.I,.I],[.V]⟩,fun K v0 v1 v2 v3=>l6 k v0 v1 v3 (fun p0=>K (.exit 2) (bZ [0,2,3,4,5] [.V v0,.N,.O 0,.J v1,.J p0] [oV v3])) k v2⟩
def h3 (k:Nat):Lh S.Y:=⟨3,⟨[.V,.l (.own 0),.I],[.V]⟩,fun K v0 v1 v2=>l3 k v0 (fun p0=>K (.exit 0) (bZ [2,3] [.N,.O 0] [oV p0])) k v1 v2⟩
theorem aB:Ct S f:=fun k=>c1 47 [] [(6,[0,3,4,5]),(100006,[0,2,3,4,5]),(3,[0,3,4]),(100003,[2,3])] [h6 k,h3 k] func146 (all_cons ((h3 k).fit fun K r v0 v1 v2 h=>fm h (fun a m=>m v0 a.1 a.2) fun _ v1 v2=>some (v1,v2)) (all_cons ((h6 k).fit fun K r v0 v1 v2 v3 h=>fm h (fun a m=>m v0 v1 a v3) fun _ _ v2 _=>some v2) all_nil))
end eK
namespace pp
def S:=so 340 [3] [4] .own [.I] [.B]
theorem aB:Ct S f:=fun k=>c0 6 [ce (bb.aB k),ce (bP.aB k)] func340
end pp
namespace lP
def S:=so 303 [3,3] [4] .own [.I,.I] [.B]
theorem aB:Ct S f:=fun k=>c0 31 [ce (bP.aB k),ce (eh.aB k),ce (pp.aB k)] func303
end lP
namespace d_
def S:=so 235 [22,3] [4] .own [.V,.I] [.B]
def h5 (k:Nat):Lh S.Y:=⟨5,⟨[.V,.I,.l (.own 0),.I],[.row false .eQ]⟩,fun K v0 v1 v2 v3=>l5 k v0 v1 (fun p0=>K (.exit 0) (bZ [4,5] [.N,.O 0] [oB p0])) k v2 v3⟩
theorem aB:Ct S f:=fun k=>c1 93 [ce (cc.aB k),ce (dP.aB k),ce (lP.aB k)] [(5,[0,1,5,6]),(100005,[4,5])] [h5 k] func235 (all_cons ((h5 k).fit fun K r v0 v1 v2 v3 h=>fm h (fun a m=>m v0 v1 a.1 a.2) fun _ _ v2 v3=>some (v2,v3)) all_nil)
end d_
namespace nR
def S:=so 147 [31,3,3] [4] .own [.agg .bi Ps,.I,.I] [.B]
theorem aB:Ct S f:=fun k=>c0 46 [ce (dm.aB k),ce (cc.aB k),ce (bP.aB k),ce (eh.aB k),ce (d_.aB k)] func147
end nR
namespace eB
def S:=so 77 [33] [22] .own [.agg .bi Dt] [.l .own (.ints .i64)]
def h6 (k:Nat):Lh S.Y:=⟨6,⟨[.l (.ptr 0 0),.l (.own 1),.l (.own 2),.I],[.box [.I,.I,.b,.b,.V,.V,.I,.I,.W,.V,.V,.I,.I,.I],.V,.V]⟩,fun K v0 v1 v2 v3 v4 v5 v6 v7 v8 _ _ v11 _ _ _ jd jT=>l6 k v1 v2 v3 v4 v5 v6 v7 v8 v11 jT (fun p0=>K (.exit 0) (bZ [2,3] [.N,.O 0] [oV p0])) k v0 jd⟩
theorem aB:Ct S f:=fun k=>c1 51 [ce (cq.aB k),ce (iR.aB k),ce (eK.aB k),ce (nR.aB k)] [(6,[1,3,4,5]),(100006,[2,3])] [h6 k] func77 (all_cons ((h6 k).fit fun K r v0 v1 v2 v3 v4 v5 v6 v7 v8 v9 v10 v11 v12 jD jE jd jT h=>fm h (fun a m=>m a.1 v1 v2 v3 v4 v5 v6 v7 v8 v9 v10 v11 v12 jD jE a.2 jT) fun v0 _ _ _ _ _ _ _ _ _ _ _ _ _ _ jd _=>some (v0,jd)) all_nil)
end eB
namespace fp
def S:=so 274 [22,3] [22] .own [.V,.I] [.l .own (.ints .i64)]
def h3 (k:Nat):Lh S.Y:=⟨3,⟨[.V,.I,.l (.own 0),.I],[.V]⟩,fun K v0 v1 v2 v3=>l3 k v0 v1 (fun p0=>K (.exit 0) (bZ [4,5] [.N,.O 0] [oV p0])) k v2 v3⟩
theorem aB:Ct S f:=fun k=>c1 28 [] [(3,[0,1,5,6]),(100003,[4,5])] [h3 k] func274 (all_cons ((h3 k).fit fun K r v0 v1 v2 v3 h=>fm h (fun a m=>m v0 v1 a.1 a.2) fun _ _ v2 v3=>some (v2,v3)) all_nil)
end fp
namespace mr
def S:=so 347 [31,3] [4] .own [.agg .bi Ps,.I] [.B]
theorem aB:Ct S f:=fun k=>c0 13 [ce (dm.aB k),ce (d_.aB k)] func347
end mr
namespace nS
def S:=so 320 [33,3] [33,4] .own [.agg .bi Dt,.I] [.agg .own Dt,.B]
theorem aB:Ct S f:=fun k=>c0 54 [ce (eB.aB k),ce (gg.aB k),ce (cW.aB k),ce (fp.aB k),ce (mr.aB k)] func320
end nS
namespace iE
def S:=so 269 [33,3] [33,4] .own [.agg .bi Dt,.I] [.agg .own Dt,.B]
theorem aB:Ct S f:=fun k=>c0 17 [ce (fH.aB k),ce (nS.aB k)] func269
end iE
namespace dK
def S:=so 219 [33,22] [33,3] .own [.agg .bi Dt,.V] [.agg .own Dt,.O]
def h3 (k:Nat):Lh S.Y:=⟨3,⟨[.V,.l (.ptr 0 0),.l (.ptr 1 0),.I],[.box [.I,.I,.bc false,.bc false,.nil,.nil,.I,.I,.nil,.nil,.nil,.I,.I,.I],.box [.I,.I,.b,.b,.own 2,.own 3,.I,.I,.own 4,.own 5,.own 6,.I,.I,.I],.V,.V,.W,.V,.V]⟩,fun K v0 v1 v2 v3 v6 v7 v8 v9 v10 v11 v12 jD jE jd jT kL nH nz v20 v21 nI mT v24=>l3 k v0 (fun p0 p1 p2 p3 p4 p5 p6 p7 p8 p9 qo rA qK td wV=>K .ret (bZ [1,4,5,6] [.V v0,.one (.l (.je 0 0)),.J p0,.one (.l (.je 6 0))] [some (.box 0 [.J p1,.J p2,.b p3,.b p4,.own 1,.own 2,.J p5,.J p6,.own 3,.own 4,.own 5,.J p7,.J p8,.J p9]),oV qo,oV rA,oW qK,oV td,oV wV,some (.box 0 [.J p1,.J p2,.b p3,.b p4,.own 1,.own 2,.J p5,.J p6,.own 3,.own 4,.own 5,.J p7,.J p8,.J p9])])) (fun p0 p1 p2 p3 p4 p5 p6 p7 p8 p9 qo rA qK td=>K (.exit 0) (bZ [1,4,5,6] [.V v0,.one (.l (.je 0 0)),.N,.one (.l (.je 1 0))] [some (.box 0 [.J v2,.J v3,.b false,.b false,.nil,.nil,.J v6,.J v7,.nil,.nil,.nil,.J v8,.J v9,.J v10]),some (.box 0 [.J p0,.J p1,.b p2,.b p3,.own 2,.own 3,.J p4,.J p5,.own 4,.own 5,.own 6,.J p6,.J p7,.J p8]),oV p9,oV qo,oW rA,oV qK,oV td])) k v1 v11 v12 jD jE jd jT kL nH nz v20 v21 nI mT v24⟩
theorem aB:Ct S f:=fun k=>c1 35 [ce (gg.aB k),ce (iE.aB k)] [(3,[1,4,6,7]),(100003,[1,4,5,6])] [h3 k] func219 (all_cons ((h3 k).fit fun K r v0 v1 v2 v3 v6 v7 v8 v9 v10 v11 v12 jD jE jd jT kL nH nz v20 v21 nI mT v24 h=>fm h (fun a m=>m v0 a.1 v2 v3 v6 v7 v8 v9 v10 a.2.1 (p2 a) (p3 a) (p4 a) (p5 a) (p6 a) (p7 a) (p8 a) (p9 a) (qo a) (rA a) (qK a) (td a) (t9 (t5 a))) fun _ v1 _ _ _ _ _ _ _ v11 v12 jD jE jd jT kL nH nz v20 v21 nI mT v24=>some (v1,v11,v12,jD,jE,jd,jT,kL,nH,nz,v20,v21,nI,mT,v24)) all_nil)
end dK
namespace jr
def S:=so 124 [35] [4] .own [.agg .bi qU] [.B]
theorem aB:Ct S f:=fun k=>c0 86 [ce (dm.aB k),ce (fo.aB k),ce (dq.aB k),ce (kp.aB k),ce (dK.aB k)] func124
end jr
namespace dM
def S:Sp:=⟨45,⟨[35,35,4],[35,4],[.qp,.Hp,.qp],.own⟩,[.agg .bi qU,.agg .own qU,.l .bi .bool],[.agg .own qU,.B]⟩
theorem aB:Ct S f:=fun k=>c0 23 [ce (bm.aB k),ce (jr.aB k)] func45
end dM
namespace kq
def S:=so 191 [35,3] [35,4] .own [.agg .bi qU,.I] [.agg .own qU,.B]
theorem aB:Ct S f:=fun k=>c0 36 [ce (bm.aB k),ce (dM.aB k),ce (iE.aB k)] func191
end kq
namespace gY
def S:=so 107 [35,3] [35,4] .own [.agg .bi qU,.I] [.agg .own qU,.B]
theorem aB:Ct S f:=fun k=>c0 16 [ce (bm.aB k),ce (cc.aB k),ce (kq.aB k)] func107
end gY
namespace rD
def S:Sp:=⟨108,⟨[35,35,4],[35,9],[.qp,.Hp,.qp],.own⟩,[.agg .bi qU,.agg .own qU,.l .bi .bool],[.agg .own qU,.l .own .str]⟩
theorem aB:Ct S f:=fun k=>c0 13 [ce (bm.aB k)] func108
end rD
namespace aT
def S:=so 154 [3] [9] .own [.I] [.l .own .str]
def h5 (k:Nat):Lh S.Y:=⟨5,⟨[.I,.l (.s),.I],[]⟩,fun K v0 v1 v2=>l5 k (fun p0=>K (.exit 0) (bZ [0,2,3] [.J v0,.N,.S p0] [])) k v1 v2⟩
theorem aB:Ct S f:=fun k=>c1 31 [] [(5,[0,3,4]),(100005,[0,2,3])] [h5 k] func154 (all_cons ((h5 k).fit fun K r v0 v1 v2 h=>fm h (fun a m=>m v0 a.1 a.2) fun _ v1 v2=>some (v1,v2)) all_nil)
end aT
namespace di
def S:=so 122 [9] [3,4] .own [.l .bi .str] [.O,.B]
def h5 (k:Nat):Lh S.Y:=⟨5,⟨[.l (.s),.I,.I],[]⟩,fun K v0 v1 v2=>l5 k v0 (fun p0=>K .ret (bZ [0,2,3,4] [.S v0,.J 0,.Q false,.J p0] [])) (fun p0=>K (.exit 0) (bZ [0,2,3,4] [.S v0,.N,.N,.J p0] [])) k v1 v2⟩
theorem aB:Ct S f:=fun k=>c1 39 [ce (aT.aB k),ce (bb.aB k)] [(5,[0,4,5]),(100005,[0,2,3,4])] [h5 k] func122 (all_cons ((h5 k).fit fun K r v0 v1 v2 h=>fm h (fun a m=>m v0 a.1 a.2) fun _ v1 v2=>some (v1,v2)) all_nil)
end di
namespace de
def S:=so 109 [57] [22,4] .own [.l .bi .strs] [.l .own (.ints .i64),.B]
def h3 (k:Nat):Lh S.Y:=⟨3,⟨[.l (.val false false .strs),.l (.own 0),.I],[.V]⟩,fun K v0 v1 v2=>l3 k v0 (fun p0=>K .ret (bZ [2,3,4] [.O 0,.Q false,.O 0] [oV p0])) (fun p0=>K (.exit 0) (bZ [2,3,4] [.N,.N,.O 0] [oV p0])) k v1 v2⟩
theorem aB:Ct S f:=fun k=>c1 31 [ce (di.aB k)] [(3,[0,4,5]),(100003,[2,3,4])] [h3 k] func109 (all_cons ((h3 k).fit fun K r v0 v1 v2 h=>fm h (fun a m=>m v0 a.1 a.2) fun _ v1 v2=>some (v1,v2)) all_nil)
end de
namespace eg
def S:=so 289 [9,5] [3] .own [.l .bi .str,.l .bi (.int .u8)] [.O]
def h2 (k:Nat):Lh S.Y:=⟨2,⟨[.l (.s),.l (.i .u8),.I],[]⟩,fun K v0 v1 v2=>l2 k v0 v1 (fun p0=>K .ret (bZ [4] [.J p0] [])) (K (.exit 0) (bZ [4] [.N] [])) k v2⟩
theorem aB:Ct S f:=fun k=>c1 18 [] [(2,[0,1,5]),(100002,[4])] [h2 k] func289 (all_cons ((h2 k).fit fun K r v0 v1 v2 h=>fm h (fun a m=>m v0 v1 a) fun _ _ v2=>some v2) all_nil)
end eg
namespace jA
def S:=so 214 [9,3] [22,3] .own [.l .bi .str,.I] [.l .own (.ints .i64),.O]
theorem step (k:Nat) (self:ByteArray->Int->Option (LI×Int)) (Sa:Hm prog S self):Hm prog S (b k self):=c0 146 [ce Sa,ce (eg.aB k)] func214
theorem aB (k:Nat):Hm prog S (f k):=Jo (S:=S) (b:=b k) (g:=g k) ⟨f214,func214,by kernel_rfl,by kernel_rfl⟩ (fun _=>rfl) (fun _=>rfl) (step k) k
end jA
namespace kX
def S:=so 329 [3] [9] .own [.I] [.l .own .str]
theorem aB:Ct S f:=fun k=>c0 7 [] func329
end kX
namespace mW
def S:=so 291 [3] [9] .own [.I] [.l .own .str]
theorem aB:Ct S f:=fun k=>c0 25 [ce (kX.aB k)] func291
end mW
namespace bL
def S:=so 215 [22] [9] .own [.V] [.l .own .str]
def h5 (k:Nat):Lh S.Y:=⟨5,⟨[.V,.l (.own 0),.I],[.row false .strs]⟩,fun K v0 v1 v2=>l5 k v0 (fun p0=>K (.exit 0) (bZ [2,3] [.N,.O 0] [oS p0])) k v1 v2⟩
theorem aB:Ct S f:=fun k=>c1 89 [ce (dP.aB k),ce (mW.aB k)] [(5,[0,3,4]),(100005,[2,3])] [h5 k] func215 (all_cons ((h5 k).fit fun K r v0 v1 v2 h=>fm h (fun a m=>m v0 a.1 a.2) fun _ v1 v2=>some (v1,v2)) all_nil)
end bL
namespace iZ
def S:=so 123 [9] [22,4] .own [.l .bi .str] [.l .own (.ints .i64),.B]
theorem aB:Ct S f:=fun k=>c0 31 [ce (jA.aB k),ce (bL.aB k)] func123
end iZ
namespace iF
def S:=so 192 [22] [22] .own [.V] [.l .own (.ints .i64)]
def h3 (k:Nat):Lh S.Y:=⟨3,⟨[.V,.l (.own 0),.I],[.V]⟩,fun K v0 v1 v2=>l3 k v0 (fun p0=>K (.exit 0) (bZ [2,3] [.N,.O 0] [oV p0])) k v1 v2⟩
theorem aB:Ct S f:=fun k=>c1 18 [ce (d_.aB k)] [(3,[0,3,4]),(100003,[2,3])] [h3 k] func192 (all_cons ((h3 k).fit fun K r v0 v1 v2 h=>fm h (fun a m=>m v0 a.1 a.2) fun _ v1 v2=>some (v1,v2)) all_nil)
end iF
namespace c_
def S:=so 209 [22] [9] .own [.V] [.l .own .str]
def h3 (k:Nat):Lh S.Y:=⟨3,⟨[.V,.l (.s),.I],[]⟩,fun K v0 v1 v2=>l3 k v0 (fun p0=>K (.exit 0) (bZ [0,2,3] [.V v0,.N,.S p0] [])) k v1 v2⟩
theorem aB:Ct S f:=fun k=>c1 30 [ce (dZ.aB k),ce (cc.aB k)] [(3,[0,3,4]),(100003,[0,2,3])] [h3 k] func209 (all_cons ((h3 k).fit fun K r v0 v1 v2 h=>fm h (fun a m=>m v0 a.1 a.2) fun _ v1 v2=>some (v1,v2)) all_nil)
end c_
namespace eO
def S:=so 193 [9] [22,4] .own [.l .bi .str] [.l .own (.ints .i64),.B]
def h3 (k:Nat):Lh S.Y:=⟨3,⟨[.l (.s),.l (.own 0),.I],[.V]⟩,fun K v0 v1 v2=>l3 k v0 (fun p0=>K (.exit 0) (bZ [0,2,3,4] [.S v0,.N,.N,.O 0] [oV p0])) k v1 v2⟩
theorem aB:Ct S f:=fun k=>c1 34 [ce (dQ.aB k),ce (c_.aB k),ce (bQ.aB k)] [(3,[0,4,5]),(100003,[0,2,3,4])] [h3 k] func193 (all_cons ((h3 k).fit fun K r v0 v1 v2 h=>fm h (fun a m=>m v0 a.1 a.2) fun _ v1 v2=>some (v1,v2)) all_nil)
end eO
namespace cx
def S:=so 270 [57,9] [9] .own [.l .bi .strs,.l .bi .str] [.l .own .str]
def h3 (k:Nat):Lh S.Y:=⟨3,⟨[.l (.val false false .strs),.l (.s),.l (.s),.I],[]⟩,fun K v0 v1 v2 v3=>l3 k v0 v1 (fun p0=>K (.exit 0) (bZ [0,4,5] [.one (.l (.val false (.strs v0))),.N,.S p0] [])) k v2 v3⟩
theorem aB:Ct S f:=fun k=>c1 28 [] [(3,[0,1,5,6]),(100003,[0,4,5])] [h3 k] func270 (all_cons ((h3 k).fit fun K r v0 v1 v2 v3 h=>fm h (fun a m=>m v0 v1 a.1 a.2) fun _ _ v2 v3=>some (v2,v3)) all_nil)
end cx
namespace e7
def S:=so 194 [25] [9] .own [.l .bi .rows] [.l .own .str]
def h3 (k:Nat):Lh S.Y:=⟨3,⟨[.W,.l (.own 0),.I],[.row false .strs]⟩,fun K v0 v1 v2=>l3 k v0 (fun p0=>K (.exit 0) (bZ [2,3] [.N,.O 0] [oS p0])) k v1 v2⟩
theorem aB:Ct S f:=fun k=>c1 22 [ce (c_.aB k),ce (cx.aB k)] [(3,[0,3,4]),(100003,[2,3])] [h3 k] func194 (all_cons ((h3 k).fit fun K r v0 v1 v2 h=>fm h (fun a m=>m v0 a.1 a.2) fun _ v1 v2=>some (v1,v2)) all_nil)
end e7
namespace mw
def S:=so 271 [22] [4] .own [.V] [.B]
theorem aB:Ct S f:=fun k=>c0 10 [ce (bQ.aB k)] func271
end mw
namespace gR
def S:=so 321 [22,22] [4] .own [.V,.V] [.B]
def h2 (k:Nat):Lh S.Y:=⟨2,⟨[.V,.V,.I],[]⟩,fun K v0 v1 v2=>l2 k v0 v1 (fun p0=>K .ret (bZ [0,1,4] [.V v0,.V v1,.Q p0] [])) (K (.exit 0) (bZ [0,1,4] [.V v0,.V v1,.N] [])) k v2⟩
theorem aB:Ct S f:=fun k=>c1 41 [] [(2,[0,1,5]),(100002,[0,1,4])] [h2 k] func321 (all_cons ((h2 k).fit fun K r v0 v1 v2 h=>fm h (fun a m=>m v0 v1 a) fun _ _ v2=>some v2) all_nil)
end gR
namespace hJ
def S:=so 273 [25,22] [25] .bi [.l .bi .rows,.V] [.l .bi .rows]
def h2 (k:Nat):Lh S.Y:=⟨2,⟨[.W,.V,.I],[]⟩,fun K v0 v1 v2=>l2 k v0 v1 (fun p0=>K (.exit 0) (bZ [0,1,4,5] [.W v0,.V v1,.N,.J p0] [])) k v2⟩
theorem aB:Ct S f:=fun k=>c1 33 [ce (gR.aB k)] [(2,[0,1,5]),(100002,[0,1,4,5])] [h2 k] func273 (all_cons ((h2 k).fit fun K r v0 v1 v2 h=>fm h (fun a m=>m v0 v1 a) fun _ _ v2=>some v2) all_nil)
end hJ
namespace aW
def S:=so 195 [22] [25] .bi [.V] [.l .bi .rows]
def h9 (k:Nat):Lh S.Y:=⟨9,⟨[.V,.W,.I,.l (.own 0),.I],[.V]⟩,fun K v0 v1 v2 v3 v4=>l9 k v0 v2 (fun p0=>K (.exit 2) (bZ [0,2,3,4,5] [.V v0,.N,.W v1,.J v2,.V p0] [])) k v3 v4⟩
def Xv (k:Nat):Lh S.Y:=⟨16,⟨[.V,.W,.I,.V,.I],[]⟩,fun K v0 v1 v2 v3 v4=>OT k v3 (fun p0=>K (.exit 4) (bZ [0,2,3,4] [.V v0,.N,.W p0,.J v2] [])) k v1 v4⟩
def h5 (k:Nat):Lh S.Y:=⟨5,⟨[.V,.W,.I],[]⟩,fun K v0 v1 v2=>l5 k v0 (fun p0=>K (.exit 0) (bZ [0,2,3] [.V v0,.N,.W p0] [])) k v1 v2⟩
def h24 (k:Nat):Lh S.Y:=⟨24,⟨[.V,.W,.I,.l (.own 0),.I],[.V]⟩,fun K v0 v1 v2 v3 v4=>l24 k v0 v2 (fun p0=>K (.exit 8) (bZ [0,2,3,8] [.V v0,.N,.W p0,.J v2] [])) k v1 v3 v4⟩
def h20 (k:Nat):Lh S.Y:=⟨20,⟨[.V,.W,.I],[]⟩,fun K v0 v1 v2=>l20 k v0 (fun p0=>K (.exit 6) (bZ [2,3] [.N,.W p0] [])) k v1 v2⟩
theorem aB:Ct S f:=fun k=>c1 94 [ce (bP.aB k),ce (mw.aB k),ce (cW.aB k),ce (hJ.aB k),ce (fp.aB k)] [(9,[0,3,4,5,6]),(100009,[0,2,3,4,5]),(300009,[5]),(16,[0,3,4,5,7]),(100016,[0,2,3,4]),(200016,[3]),(5,[0,3,4]),(100005,[0,2,3]),(200005,[3]),(24,[0,3,8,9,10]),(100024,[0,2,3,8]),(200024,[3]),(20,[0,3,8]),(100020,[2,3]),(200020,[3])] [h9 k,Xv k,h5 k,h24 k,h20 k] func195 (all_cons ((h5 k).fit fun K r v0 v1 v2 h=>fm h (fun a m=>m v0 a.1 a.2) fun _ v1 v2=>some (v1,v2)) (all_cons ((h9 k).fit fun K r v0 v1 v2 v3 v4 h=>fm h (fun a m=>m v0 v1 v2 a.1 a.2) fun _ _ _ v3 v4=>some (v3,v4)) (all_cons ((Xv k).fit fun K r v0 v1 v2 v3 v4 h=>fm h (fun a m=>m v0 a.1 v2 v3 a.2) fun _ v1 _ _ v4=>some (v1,v4)) (all_cons ((h20 k).fit fun K r v0 v1 v2 h=>fm h (fun a m=>m v0 a.1 a.2) fun _ v1 v2=>some (v1,v2)) (all_cons ((h24 k).fit fun K r v0 v1 v2 v3 v4 h=>fm h (fun a m=>m v0 a.1 v2 a.2.1 (t2 a)) fun _ v1 _ v3 v4=>some (v1,v3,v4)) all_nil)))))
end aW
namespace nh
def S:=so 348 [3] [3] .own [.I] [.O]
theorem aB:Ct S f:=fun k=>c0 17 [ce (eh.aB k)] func348
end nh
namespace im
def S:=so 322 [22] [3] .own [.V] [.O]
def h3 (k:Nat):Lh S.Y:=⟨3,⟨[.V,.I,.I],[]⟩,fun K v0 v1 v2=>l3 k v0 (fun p0=>K (.exit 0) (bZ [2,3] [.N,.J p0] [])) k v1 v2⟩
theorem aB:Ct S f:=fun k=>c1 19 [ce (nh.aB k)] [(3,[0,3,4]),(100003,[2,3])] [h3 k] func322 (all_cons ((h3 k).fit fun K r v0 v1 v2 h=>fm h (fun a m=>m v0 a.1 a.2) fun _ v1 v2=>some (v1,v2)) all_nil)
end im
namespace iG
def S:=so 323 [22,22] [22] .bi [.V,.V] [.V]
def h3 (k:Nat):Lh S.Y:=⟨3,⟨[.V,.V,.I],[]⟩,fun K v0 v1 v2=>l3 k v0 (fun p0=>K (.exit 0) (bZ [4,5] [.N,.V p0] [])) k v1 v2⟩
theorem aB:Ct S f:=fun k=>c1 21 [ce (fp.aB k)] [(3,[1,5,6]),(100003,[4,5]),(200003,[5])] [h3 k] func323 (all_cons ((h3 k).fit fun K r v0 v1 v2 h=>fm h (fun a m=>m v0 a.1 a.2) fun _ v1 v2=>some (v1,v2)) all_nil)
end iG
namespace qT
def S:=so 324 [3,3] [3] .own [.I,.I] [.O]
theorem aB:Ct S f:=fun k=>c0 10 [] func324
end qT
namespace fv
def S:=so 275 [22,25,3] [3] .own [.V,.l .bi .rows,.I] [.O]
def h3 (k:Nat) (self:LI->LL->Int->Option (Int)):Lh S.Y:=⟨3,⟨[.V,.W,.I,.I],[]⟩,fun K v0 v1 v2 v3=>l3 k self v0 v1 (fun p0=>K (.exit 0) (bZ [6,7] [.N,.J p0] [])) k v2 v3⟩
theorem step (k:Nat) (self:LI->LL->Int->Option (Int)) (Sa:Hm prog S self):Hm prog S (b k self):=c1 44 [ce Sa,ce (im.aB k),ce (iG.aB k),ce (qT.aB k)] [(3,[0,1,7,8]),(100003,[6,7])] [h3 k self] func275 (all_cons ((h3 k self).fit fun K r v0 v1 v2 v3 h=>fm h (fun a m=>m v0 v1 a.1 a.2) fun _ _ v2 v3=>some (v2,v3)) all_nil)
theorem aB (k:Nat):Hm prog S (f k):=Jo (S:=S) (b:=b k) (g:=g k) ⟨f275,func275,by kernel_rfl,by kernel_rfl⟩ (fun _=>rfl) (fun _=>rfl) (step k) k
end fv
namespace my
def S:=so 196 [22] [3] .own [.V] [.O]
theorem aB:Ct S f:=fun k=>c0 10 [ce (aW.aB k),ce (mw.aB k),ce (fv.aB k)] func196
end my
namespace fN
def S:=so 326 [22] [22] .own [.V] [.l .own (.ints .i64)]
def h3 (k:Nat):Lh S.Y:=⟨3,⟨[.V,.l (.own 0),.I],[.V]⟩,fun K v0 v1 v2=>l3 k v0 (fun p0=>K (.exit 0) (bZ [2,3] [.N,.O 0] [oV p0])) k v1 v2⟩
theorem aB:Ct S f:=fun k=>c1 27 [ce (eh.aB k)] [(3,[0,3,4]),(100003,[2,3])] [h3 k] func326 (all_cons ((h3 k).fit fun K r v0 v1 v2 h=>fm h (fun a m=>m v0 a.1 a.2) fun _ v1 v2=>some (v1,v2)) all_nil)
end fN
namespace bj
def S:=so 327 [22] [3] .own [.V] [.O]
def h6 (k:Nat):Lh S.Y:=⟨6,⟨[.V,.I,.l (.b),.I],[]⟩,fun K v0 v1 v2 v3=>l6 k v0 v1 (fun p0=>K (.exit 2) (bZ [0,2,3,4] [.V v0,.N,.J v1,.Q p0] [])) k v2 v3⟩
def h2 (k:Nat):Lh S.Y:=⟨2,⟨[.V,.I],[]⟩,fun K v0 v1=>l2 k v0 (fun p0=>K .ret (bZ [2] [.J p0] [])) (K (.exit 0) (bZ [2] [.N] [])) k v1⟩
theorem aB:Ct S f:=fun k=>c1 30 [] [(6,[0,3,4,5]),(100006,[0,2,3,4]),(2,[0,3]),(100002,[2])] [h6 k,h2 k] func327 (all_cons ((h2 k).fit fun K r v0 v1 h=>fm h (fun a m=>m v0 a) fun _ v1=>some v1) (all_cons ((h6 k).fit fun K r v0 v1 v2 v3 h=>fm h (fun a m=>m v0 v1 a.1 a.2) fun _ _ v2 v3=>some (v2,v3)) all_nil))
end bj
namespace fw
def S:=so 349 [22] [4] .own [.V] [.B]
def h2 (k:Nat):Lh S.Y:=⟨2,⟨[.V,.I],[]⟩,fun K v0 v1=>l2 k v0 (K .ret (bZ [2] [.Q false] [])) (K (.exit 0) (bZ [2] [.N] [])) k v1⟩
theorem aB:Ct S f:=fun k=>c1 20 [ce (bP.aB k)] [(2,[0,3]),(100002,[2])] [h2 k] func349 (all_cons ((h2 k).fit fun K r v0 v1 h=>fm h (fun a m=>m v0 a) fun _ v1=>some v1) all_nil)
end fw
namespace cQ
def S:=so 350 [22,3] [3] .own [.V,.I] [.O]
def h3 (k:Nat):Lh S.Y:=⟨3,⟨[.V,.I,.I,.I],[]⟩,fun K v0 v1 v2 v3=>l3 k v0 v1 (fun p0=>K (.exit 0) (bZ [4,5] [.N,.J p0] [])) k v2 v3⟩
theorem aB:Ct S f:=fun k=>c1 22 [] [(3,[0,1,5,6]),(100003,[4,5])] [h3 k] func350 (all_cons ((h3 k).fit fun K r v0 v1 v2 v3 h=>fm h (fun a m=>m v0 v1 a.1 a.2) fun _ _ v2 v3=>some (v2,v3)) all_nil)
end cQ
namespace nT
def S:=so 325 [22] [3] .own [.V] [.O]
theorem aB:Ct S f:=fun k=>c0 54 [ce (bQ.aB k),ce (fN.aB k),ce (bj.aB k),ce (fw.aB k),ce (cQ.aB k)] func325
end nT
namespace dR
def S:=so 276 [22] [22] .own [.V] [.l .own (.ints .i64)]
def M6 (k:Nat):Lh S.Y:=⟨12,⟨[.l (.own 0),.l (.own 1),.I,.I],[.V,.V]⟩,fun K v0 v1 v2 v3=>RV k v0 v2 (fun p0=>K (.exit 2) (bZ [2,4,5,6] [.N,.O 0,.O 1,.J v0] [oV v2,oV p0])) k v1 v3⟩
def h9 (k:Nat):Lh S.Y:=⟨9,⟨[.l (.own 0),.l (.own 1),.I],[.V,.V]⟩,fun K v0 v1 v2=>l9 k v1 (fun p0=>K (.exit 0) (bZ [2,5] [.N,.O 0] [oV p0])) k v0 v2⟩
theorem aB:Ct S f:=fun k=>c1 46 [ce (nT.aB k),ce (fN.aB k),ce (bj.aB k)] [(12,[4,5,6,7]),(100012,[2,4,5,6]),(9,[4,5,6]),(100009,[2,5])] [M6 k,h9 k] func276 (all_cons ((h9 k).fit fun K r v0 v1 v2 h=>fm h (fun a m=>m a.1 v1 a.2) fun v0 _ v2=>some (v0,v2)) (all_cons ((M6 k).fit fun K r v0 v1 v2 v3 h=>fm h (fun a m=>m v0 a.1 v2 a.2) fun _ v1 _ v3=>some (v1,v3)) all_nil))
end dR
namespace mz
def S:=so 277 [3] [9] .own [.I] [.l .own .str]
theorem aB:Ct S f:=fun k=>c0 10 [ce (bb.aB k)] func277
end mz
namespace dr
def S:=so 278 [22] [57] .own [.V] [.l .own .strs]
def h3 (k:Nat):Lh S.Y:=⟨3,⟨[.V,.l (.own 0),.I],[.row false .strs]⟩,fun K v0 v1 v2=>l3 k v0 (fun p0=>K (.exit 0) (bZ [2,3] [.N,.O 0] [oS p0])) k v1 v2⟩
theorem aB:Ct S f:=fun k=>c1 21 [ce (aT.aB k)] [(3,[0,3,4]),(100003,[2,3])] [h3 k] func278 (all_cons ((h3 k).fit fun K r v0 v1 v2 h=>fm h (fun a m=>m v0 a.1 a.2) fun _ v1 v2=>some (v1,v2)) all_nil)
end dr
namespace li
def S:=so 197 [22] [9] .own [.V] [.l .own .str]
theorem aB:Ct S f:=fun k=>c0 19 [ce (cx.aB k),ce (dR.aB k),ce (mz.aB k),ce (dr.aB k)] func197
end li
namespace nU
def S:=so 279 [3,3,3] [4] .own [.I,.I,.I] [.B]
theorem aB:Ct S f:=fun k=>c0 27 [ce (cc.aB k),ce (bP.aB k)] func279
end nU
namespace iH
def S:=so 198 [22,3] [3] .own [.V,.I] [.O]
def h5 (k:Nat):Lh S.Y:=⟨5,⟨[.V,.I,.I,.I],[]⟩,fun K v0 v1 v2 v3=>l5 k v0 v1 (fun p0=>K (.exit 0) (bZ [4,5] [.N,.J p0] [])) k v2 v3⟩
theorem aB:Ct S f:=fun k=>c1 33 [ce (bQ.aB k),ce (nU.aB k)] [(5,[0,1,5,6]),(100005,[4,5])] [h5 k] func198 (all_cons ((h5 k).fit fun K r v0 v1 v2 v3 h=>fm h (fun a m=>m v0 v1 a.1 a.2) fun _ _ v2 v3=>some (v2,v3)) all_nil)
end iH
namespace cN
def S:=so 110 [57] [9] .own [.l .bi .strs] [.l .own .str]
theorem aB:Ct S f:=fun k=>c0 108 [ce (de.aB k),ce (iZ.aB k),ce (aT.aB k),ce (iF.aB k),ce (eO.aB k),ce (e7.aB k),ce (aW.aB k),ce (my.aB k),ce (li.aB k),ce (iH.aB k)] func110
end cN
namespace lj
def S:=so 226 [3,3] [3] .own [.I,.I] [.O]
theorem aB:Ct S f:=fun k=>c0 15 [ce (bb.aB k)] func226
end lj
namespace ke
def S:=so 137 [22] [3] .own [.V] [.O]
def h3 (k:Nat):Lh S.Y:=⟨3,⟨[.V,.I,.I],[]⟩,fun K v0 v1 v2=>l3 k v0 (fun p0=>K (.exit 0) (bZ [2,3] [.N,.J p0] [])) k v1 v2⟩
theorem aB:Ct S f:=fun k=>c1 22 [ce (lj.aB k)] [(3,[0,3,4]),(100003,[2,3])] [h3 k] func137 (all_cons ((h3 k).fit fun K r v0 v1 v2 h=>fm h (fun a m=>m v0 a.1 a.2) fun _ v1 v2=>some (v1,v2)) all_nil)
end ke
namespace jM
def S:=so 71 [3,3,3] [3] .own [.I,.I,.I] [.O]
theorem aB:Ct S f:=fun k=>c0 12 [ce (ke.aB k)] func71
end jM
namespace dt
def S:=so 199 [31,22,3] [160] .own [.agg .bi Ps,.V,.I] [.l .own (.ek [false,false,true,true])]
def h6 (k:Nat):Lh S.Y:=⟨6,⟨[.V,.I,.l (.own 0),.l (.own 1),.I],[.row true (.ek [false,false,true,true]),.V]⟩,fun K v0 v1 v2 v3 v4=>l6 k v0 v1 (fun p0 p1=>K (.exit 0) (bZ [1,6,7,8] [.V v0,.N,.O 0,.O 1] [some (.row 0 0 (.ek [false,false,true,true] true p0)),oV p1])) k v2 v3 v4⟩
theorem aB:Ct S f:=fun k=>c1 52 [ce (jM.aB k),ce (dm.aB k)] [(6,[1,2,7,8,9]),(100006,[1,6,7,8])] [h6 k] func199 (all_cons ((h6 k).fit fun K r v0 v1 v2 v3 v4 h=>fm h (fun a m=>m v0 v1 a.1 a.2.1 (t2 a)) fun _ _ v2 v3 v4=>some (v2,v3,v4)) all_nil)
end dt
namespace mA
def S:=so 70 [35,3] [35,4] .own [.agg .bi qU,.I] [.agg .own qU,.B]
theorem aB:Ct S f:=fun k=>c0 23 [ce (bm.aB k),ce (dM.aB k)] func70
end mA
namespace gZ
def S:=so 112 [35] [35,4] .own [.agg .bi qU] [.agg .own qU,.B]
theorem aB:Ct S f:=fun k=>c0 8 [ce (kq.aB k)] func112
end gZ
namespace ni
def S:=so 201 [33] [4] .own [.agg .bi Dt] [.B]
theorem aB:Ct S f:=fun k=>c0 9 [ce (cq.aB k),ce (iR.aB k)] func201
end ni
namespace gu
def S:=so 280 [33] [22] .own [.agg .bi Dt] [.l .own (.ints .i64)]
def h3 (k:Nat):Lh S.Y:=⟨3,⟨[.l (.ptr 0 0),.l (.own 1),.I],[.box [.I,.I,.b,.b,.V,.V,.I,.I,.W,.V,.V,.I,.I,.I],.V]⟩,fun K v0 _ _ _ _ _ _ _ _ v9 _ _ _ _ _ jd=>l3 k v9 (fun p0=>K (.exit 0) (bZ [2,3] [.N,.O 0] [oV p0])) k v0 jd⟩
theorem aB:Ct S f:=fun k=>c1 23 [ce (im.aB k)] [(3,[1,3,4]),(100003,[2,3])] [h3 k] func280 (all_cons ((h3 k).fit fun K r v0 v1 v2 v3 v4 v5 v6 v7 v8 v9 v10 v11 v12 jD jE jd h=>fm h (fun a m=>m a.1 v1 v2 v3 v4 v5 v6 v7 v8 v9 v10 v11 v12 jD jE a.2) fun v0 _ _ _ _ _ _ _ _ _ _ _ _ _ _ jd=>some (v0,jd)) all_nil)
end gu
namespace nV
def S:=so 281 [33] [3] .own [.agg .bi Dt] [.O]
theorem aB:Ct S f:=fun k=>c0 8 [ce (cq.aB k),ce (fM.aB k)] func281
end nV
namespace ea
def S:=so 202 [33] [22] .own [.agg .bi Dt] [.l .own (.ints .i64)]
def Ux (k:Nat):Lh S.Y:=⟨13,⟨[.l (.ptr 0 0),.l (.own 1),.l (.own 2),.I,.I,.I,.I],[.box [.I,.I,.b,.b,.V,.V,.I,.I,.W,.V,.V,.I,.I,.I],.V,.V]⟩,fun K v0 v1 v2 v3 v4 v5 v6 v7 v8 v9 v10 v11 v12 jD jE jd jT kL nH nz=>Wh k nz (fun p0=>K (.exit 3) (bZ [1,2,3,4,5,6,7] [.one (.l (.je 0 0)),.N,.O 1,.O 2,.J v0,.J v1,.J p0] [some (.box 0 [.J v4,.J v5,.b v6,.b v7,.V v8,.V v9,.J v10,.J v11,.W v12,.V jD,.V jE,.J jd,.J jT,.J kL]),oV nH,oV nz])) k v2 v3⟩
def h5 (k:Nat):Lh S.Y:=⟨5,⟨[.l (.ptr 0 0),.l (.own 1),.l (.own 2),.I,.I],[.box [.I,.I,.b,.b,.V,.V,.I,.I,.W,.V,.V,.I,.I,.I],.V,.V]⟩,fun K v0 v1 v2 v3 v4 v5 v6 v7 v8 v9 v10 v11 v12 jD jE jd jT kL=>l5 k v0 v2 v3 v4 v5 v6 v7 v8 v9 v10 v11 v12 jD jE jd kL (fun p0=>K (.exit 0) (bZ [2,3] [.N,.O 0] [oV p0])) k v1 jT⟩
theorem aB:Ct S f:=fun k=>c1 59 [ce (cq.aB k),ce (gu.aB k),ce (nV.aB k)] [(13,[1,3,4,5,6,7,8]),(100013,[1,2,3,4,5,6,7]),(5,[1,3,4,5,6]),(100005,[2,3])] [Ux k,h5 k] func202 (all_cons ((h5 k).fit fun K r v0 v1 v2 v3 v4 v5 v6 v7 v8 v9 v10 v11 v12 jD jE jd jT kL h=>fm h (fun a m=>m v0 a.1 v2 v3 v4 v5 v6 v7 v8 v9 v10 v11 v12 jD jE jd a.2 kL) fun _ v1 _ _ _ _ _ _ _ _ _ _ _ _ _ _ jT _=>some (v1,jT)) (all_cons ((Ux k).fit fun K r v0 v1 v2 v3 v4 v5 v6 v7 v8 v9 v10 v11 v12 jD jE jd jT kL nH nz h=>fm h (fun a m=>m v0 v1 a.1 a.2 v4 v5 v6 v7 v8 v9 v10 v11 v12 jD jE jd jT kL nH nz) fun _ _ v2 v3 _ _ _ _ _ _ _ _ _ _ _ _ _ _ _ _=>some (v2,v3)) all_nil))
end ea
namespace iI
def S:=so 113 [35] [35,4] .own [.agg .bi qU] [.agg .own qU,.B]
theorem aB:Ct S f:=fun k=>c0 36 [ce (bm.aB k),ce (dM.aB k),ce (ni.aB k),ce (ea.aB k)] func113
end iI
namespace mB
def S:=so 354 [3,3,3,3] [4] .own [.I,.I,.I,.I] [.B]
theorem aB:Ct S f:=fun k=>c0 23 [ce (jM.aB k),ce (bb.aB k)] func354
end mB
namespace fe
def S:=so 336 [22,22,22] [4] .own [.V,.V,.V] [.B]
def h4 (k:Nat):Lh S.Y:=⟨4,⟨[.V,.V,.V,.I],[]⟩,fun K v0 v1 v2 v3=>l4 k v0 v1 v2 (K .ret (bZ [6] [.Q false] [])) (K (.exit 0) (bZ [6] [.N] [])) k v3⟩
theorem aB:Ct S f:=fun k=>c1 47 [ce (bb.aB k),ce (mB.aB k)] [(4,[0,1,2,7]),(100004,[6])] [h4 k] func336 (all_cons ((h4 k).fit fun K r v0 v1 v2 v3 h=>fm h (fun a m=>m v0 v1 v2 a) fun _ _ _ v3=>some v3) all_nil)
end fe
namespace gG
def S:=so 337 [22,3] [22] .own [.V,.I] [.l .own (.ints .i64)]
def h3 (k:Nat):Lh S.Y:=⟨3,⟨[.I,.l (.own 0),.I],[.V]⟩,fun K v0 v1 v2=>l3 k v0 (fun p0=>K (.exit 0) (bZ [4,5] [.N,.O 0] [oV p0])) k v1 v2⟩
theorem aB:Ct S f:=fun k=>c1 42 [ce (ke.aB k),ce (lj.aB k)] [(3,[1,5,6]),(100003,[4,5])] [h3 k] func337 (all_cons ((h3 k).fit fun K r v0 v1 v2 h=>fm h (fun a m=>m v0 a.1 a.2) fun _ v1 v2=>some (v1,v2)) all_nil)
end gG
namespace js
def S:=so 355 [22] [22] .own [.V] [.l .own (.ints .i64)]
def h3 (k:Nat):Lh S.Y:=⟨3,⟨[.V,.l (.own 0),.I],[.V]⟩,fun K v0 v1 v2=>l3 k v0 (fun p0=>K (.exit 0) (bZ [2,3] [.N,.O 0] [oV p0])) k v1 v2⟩
theorem aB:Ct S f:=fun k=>c1 19 [ce (cW.aB k)] [(3,[0,3,4]),(100003,[2,3])] [h3 k] func355 (all_cons ((h3 k).fit fun K r v0 v1 v2 h=>fm h (fun a m=>m v0 a.1 a.2) fun _ v1 v2=>some (v1,v2)) all_nil)
end js
namespace mC
def S:=so 338 [] [22] .own [] [.l .own (.ints .i64)]
theorem aB:Ct S f:=fun k=>c0 2 [ce (js.aB k)] func338
end mC
namespace ff
def S:=so 339 [22] [3] .own [.V] [.O]
def h3 (k:Nat):Lh S.Y:=⟨3,⟨[.V,.I,.I],[]⟩,fun K v0 v1 v2=>l3 k v0 (fun p0=>K (.exit 0) (bZ [2,3] [.N,.J p0] [])) k v1 v2⟩
theorem aB:Ct S f:=fun k=>c1 20 [ce (lj.aB k)] [(3,[0,3,4]),(100003,[2,3])] [h3 k] func339 (all_cons ((h3 k).fit fun K r v0 v1 v2 h=>fm h (fun a m=>m v0 a.1 a.2) fun _ v1 v2=>some (v1,v2)) all_nil)
end ff
namespace ll
def S:=so 301 [22,22,22] [22,4] .own [.V,.V,.V] [.l .own (.ints .i64),.B]
theorem aB:Ct S f:=fun k=>c0 18 [ce (fe.aB k),ce (gG.aB k),ce (mC.aB k),ce (ff.aB k)] func301
end ll
namespace mD
def S:=so 302 [35] [4] .own [.agg .bi qU] [.B]
theorem aB:Ct S f:=fun k=>c0 15 [] func302
end mD
namespace mE
def S:=so 223 [35,22,22] [35,4] .own [.agg .bi qU,.V,.V] [.agg .own qU,.B]
theorem aB:Ct S f:=fun k=>c0 48 [ce (bm.aB k),ce (dM.aB k),ce (kp.aB k),ce (ll.aB k),ce (mD.aB k)] func223
end mE
namespace kQ
def S:=so 200 [35,163] [35,4] .own [.agg .bi qU,.agg .bi Wi] [.agg .own qU,.B]
theorem aB:Ct S f:=fun k=>c0 48 [ce (bm.aB k),ce (mA.aB k),ce (gY.aB k),ce (gZ.aB k),ce (iI.aB k),ce (mE.aB k)] func200
end kQ
namespace fO
def S:=so 111 [35,22] [35,4] .own [.agg .bi qU,.V] [.agg .own qU,.B]
def h4 (k:Nat):Lh S.Y:=⟨4,⟨[.l (.ptr 0 0),.l (.ptr 1 0),.l (.ptr 2 0),.l (.own 14),.I],[.box [.I,.I,.b,.b,.V,.V,.I,.I,.V,.b,.V,.I,.I,.b,.b,.V,.V,.I,.I,.W,.V,.V,.I,.I,.I,.V,.W],.box [.I,.I,.bc false,.bc false,.nil,.nil,.I,.I,.nil,.bc false,.nil,.I,.I,.bc false,.bc false,.nil,.nil,.I,.I,.nil,.nil,.nil,.I,.I,.I,.nil,.nil],.box [.I,.I,.b,.b,.own 3,.own 4,.I,.I,.own 5,.b,.own 6,.I,.I,.b,.b,.own 7,.own 8,.I,.I,.own 9,.own 10,.own 11,.I,.I,.I,.own 12,.own 13],.V,.V,.V,.V,.V,.V,.W,.V,.V,.V,.W,.row true (.ek [false,false,true,true])]⟩,fun K v0 v1 v2 v3 v4 v5 v6 v7 v8 v9 v10 v11 v12 jD jE jd jT kL nH nz v20 v21 nI mT v24 pO pP tc v28 wX R8 Nk R_ Au Em v40 Xs Xt Xu OW GX v46 GY GZ v49 G0 v51 G3 v53 G4 G5 G6 G7 G8 v59 G9 G_ Ha Hb Hc He Hf Hg Hh Hi v70 EG=>l4 k v1 v2 v3 v4 v5 v6 v7 v8 v9 v10 v11 v12 jD jE jd jT kL nH nz v20 v21 nI mT v24 pO pP tc EG (fun p0 p1 p2 p3 p4 p5 p6 p7 p8 p9 qo rA qK td wV y7 y8 yW yX y9 y_ za yY yZ y0 vl C6 Ru p28 p29 p30 p31 p32 p33 p34 p35 p36 p37 p38 p39 p40 p41 p42 p43 p44 p45 p46 p47 p48 p49 p50 p51 p52 p53=>K .ret (bZ [4,5,6] [.one (.l (.je 0 0)),.Q false,.one (.l (.je 12 0))] [some (.box 0 [.J p0,.J p1,.b p2,.b p3,.own 1,.own 2,.J p4,.J p5,.own 3,.b p6,.own 4,.J p7,.J p8,.b p9,.b qo,.own 5,.own 6,.J rA,.J qK,.own 7,.own 8,.own 9,.J td,.J wV,.J y7,.own 10,.own 11]),oV y8,oV yW,oV yX,oV y9,oV y_,oV za,oW yY,oV yZ,oV y0,oV vl,oW C6,some (.box 0 [.J Ru,.J p28,.b p29,.b p30,.own 13,.own 14,.J p31,.J p32,.own 15,.b p33,.own 16,.J p34,.J p35,.b p36,.b p37,.own 17,.own 18,.J p38,.J p39,.own 19,.own 20,.own 21,.J p40,.J p41,.J p42,.own 22,.own 23]),oV p43,oV p44,oV p45,oV p46,oV p47,oV p48,oW p49,oV p50,oV p51,oV p52,oW p53])) (fun p0 p1 p2 p3 p4 p5 p6 p7 p8 p9 qo rA qK td wV y7 y8 yW yX y9 y_ za yY yZ y0 vl C6=>K (.exit 0) (bZ [4,5,6] [.one (.l (.je 0 0)),.N,.one (.l (.je 1 0))] [some (.box 0 [.J v28,.J wX,.b false,.b false,.nil,.nil,.J R8,.J Nk,.nil,.b false,.nil,.J R_,.J Au,.b false,.b false,.nil,.nil,.J Em,.J v40,.nil,.nil,.nil,.J Xs,.J Xt,.J Xu,.nil,.nil]),some (.box 0 [.J p0,.J p1,.b p2,.b p3,.own 2,.own 3,.J p4,.J p5,.own 4,.b p6,.own 5,.J p7,.J p8,.b p9,.b qo,.own 6,.own 7,.J rA,.J qK,.own 8,.own 9,.own 10,.J td,.J wV,.J y7,.own 11,.own 12]),oV y8,oV yW,oV yX,oV y9,oV y_,oV za,oW yY,oV yZ,oV y0,oV vl,oW C6])) k v0 OW GX v46 GY GZ v49 G0 v51 G3 v53 G4 G5 G6 G7 G8 v59 G9 G_ Ha Hb Hc He Hf Hg Hh Hi v70⟩
theorem aB:Ct S f:=fun k=>c1 37 [ce (bm.aB k),ce (lh.aB k),ce (dt.aB k),ce (kQ.aB k)] [(4,[2,4,6,7,8]),(100004,[4,5,6])] [h4 k] func111 (all_cons ((h4 k).fit fun K r v0 v1 v2 v3 v4 v5 v6 v7 v8 v9 v10 v11 v12 jD jE jd jT kL nH nz v20 v21 nI mT v24 pO pP tc v28 wX R8 Nk R_ Au Em v40 Xs Xt Xu OW GX v46 GY GZ v49 G0 v51 G3 v53 G4 G5 G6 G7 G8 v59 G9 G_ Ha Hb Hc He Hf Hg Hh Hi v70 EG h=>fm h (fun a m=>m a.1 v1 v2 v3 v4 v5 v6 v7 v8 v9 v10 v11 v12 jD jE jd jT kL nH nz v20 v21 nI mT v24 pO pP tc v28 wX R8 Nk R_ Au Em v40 Xs Xt Xu a.2.1 (p2 a) (p3 a) (p4 a) (p5 a) (p6 a) (p7 a) (p8 a) (p9 a) (qo a) (rA a) (qK a) (td a) (wV a) (y7 a) (y8 a) (yW a) (yX a) (y9 a) (y_ a) (za a) (yY a) (yZ a) (y0 a) (vl a) (C6 a) (q27 a) EG) fun v0 _ _ _ _ _ _ _ _ _ _ _ _ _ _ _ _ _ _ _ _ _ _ _ _ _ _ _ _ _ _ _ _ _ _ _ _ _ _ OW GX v46 GY GZ v49 G0 v51 G3 v53 G4 G5 G6 G7 G8 v59 G9 G_ Ha Hb Hc He Hf Hg Hh Hi v70 _=>some (v0,OW,GX,v46,GY,GZ,v49,G0,v51,G3,v53,G4,G5,G6,G7,G8,v59,G9,G_,Ha,Hb,Hc,He,Hf,Hg,Hh,Hi,v70)) all_nil)
end fO
namespace gv
def S:=so 282 [22] [22] .own [.V] [.l .own (.ints .i64)]
def h3 (k:Nat):Lh S.Y:=⟨3,⟨[.V,.l (.own 0),.I],[.V]⟩,fun K v0 v1 v2=>l3 k v0 (fun p0=>K (.exit 0) (bZ [2,3] [.N,.O 0] [oV p0])) k v1 v2⟩
theorem aB:Ct S f:=fun k=>c1 29 [ce (bP.aB k)] [(3,[0,3,4]),(100003,[2,3])] [h3 k] func282 (all_cons ((h3 k).fit fun K r v0 v1 v2 h=>fm h (fun a m=>m v0 a.1 a.2) fun _ v1 v2=>some (v1,v2)) all_nil)
end gv
namespace i_
def S:=so 283 [22] [3] .own [.V] [.O]
def h3 (k:Nat):Lh S.Y:=⟨3,⟨[.V,.I,.I],[]⟩,fun K v0 v1 v2=>l3 k v0 (fun p0=>K (.exit 0) (bZ [2,3] [.N,.J p0] [])) k v1 v2⟩
theorem aB:Ct S f:=fun k=>c1 26 [] [(3,[0,3,4]),(100003,[2,3])] [h3 k] func283 (all_cons ((h3 k).fit fun K r v0 v1 v2 h=>fm h (fun a m=>m v0 a.1 a.2) fun _ v1 v2=>some (v1,v2)) all_nil)
end i_
namespace iJ
def S:=so 203 [33,3] [3] .own [.agg .bi Dt,.I] [.O]
def Ux (k:Nat):Lh S.Y:=⟨13,⟨[.l (.own 0),.l (.own 1),.l (.own 2),.I],[.V,.V,.V]⟩,fun K v0 v1 v2 v3=>Wh k v1 v2 (fun p0=>K (.exit 1) (bZ [4,5,7] [.N,.O 0,.O 1] [oV v1,oV p0])) k v0 v3⟩
theorem aB:Ct S f:=fun k=>c1 60 [ce (eB.aB k),ce (bP.aB k),ce (gv.aB k),ce (i_.aB k)] [(13,[5,6,7,8]),(100013,[4,5,7])] [Ux k] func203 (all_cons ((Ux k).fit fun K r v0 v1 v2 v3 h=>fm h (fun a m=>m a.1 v1 v2 a.2) fun v0 _ _ v3=>some (v0,v3)) all_nil)
end iJ
namespace nj
def S:=so 114 [35,3] [35,4] .own [.agg .bi qU,.I] [.agg .own qU,.B]
theorem aB:Ct S f:=fun k=>c0 22 [ce (gY.aB k),ce (gZ.aB k),ce (iJ.aB k)] func114
end nj
namespace gS
def S:=so 284 [33] [22] .own [.agg .bi Dt] [.l .own (.ints .i64)]
def h3 (k:Nat):Lh S.Y:=⟨3,⟨[.l (.ptr 0 0),.l (.own 1),.I],[.box [.I,.I,.b,.b,.V,.V,.I,.I,.W,.V,.V,.I,.I,.I],.V]⟩,fun K v0 _ _ _ _ _ _ _ _ v9 _ _ _ _ _ jd=>l3 k v9 (fun p0=>K (.exit 0) (bZ [2,3] [.N,.O 0] [oV p0])) k v0 jd⟩
theorem aB:Ct S f:=fun k=>c1 23 [] [(3,[1,3,4]),(100003,[2,3])] [h3 k] func284 (all_cons ((h3 k).fit fun K r v0 v1 v2 v3 v4 v5 v6 v7 v8 v9 v10 v11 v12 jD jE jd h=>fm h (fun a m=>m a.1 v1 v2 v3 v4 v5 v6 v7 v8 v9 v10 v11 v12 jD jE a.2) fun v0 _ _ _ _ _ _ _ _ _ _ _ _ _ _ jd=>some (v0,jd)) all_nil)
end gS
namespace nW
def S:=so 204 [33,3] [169,4] .own [.agg .bi Dt,.I] [.agg .own O0,.B]
theorem aB:Ct S f:=fun k=>c0 47 [ce (cq.aB k),ce (eK.aB k),ce (bb.aB k),ce (gS.aB k)] func204
end nW
namespace fP
def S:=so 205 [169] [9] .own [.agg .bi O0] [.l .own .str]
def h6 (k:Nat):Lh S.Y:=⟨6,⟨[.l (.ptr 0 0),.l (.s),.I],[.box [.I,.V,.I,.I,.I,.V,.I,.I]]⟩,fun K v0 v1 _ _ _ _ _ v7 _ _=>l6 k v7 (fun p0=>K (.exit 0) (bZ [2,4] [.N,.S p0] [])) k v0 v1⟩
theorem aB:Ct S f:=fun k=>c1 39 [ce (aT.aB k),ce (dZ.aB k),ce (c_.aB k)] [(6,[1,4,5]),(100006,[2,4])] [h6 k] func205 (all_cons ((h6 k).fit fun K r v0 v1 v2 v3 v4 v5 v6 v7 v8 v9 h=>fm h (fun a m=>m a.1 a.2 v2 v3 v4 v5 v6 v7 v8 v9) fun v0 v1 _ _ _ _ _ _ _ _=>some (v0,v1)) all_nil)
end fP
namespace tm
def S:=so 115 [35,3] [9] .own [.agg .bi qU,.I] [.l .own .str]
theorem aB:Ct S f:=fun k=>c0 18 [ce (nW.aB k),ce (fP.aB k)] func115
end tm
namespace lm
def S:=so 155 [31] [9] .own [.agg .bi Ps] [.l .own .str]
theorem aB:Ct S f:=fun k=>c0 16 [] func155
end lm
namespace iK
def S:=so 156 [22] [9] .own [.V] [.l .own .str]
theorem aB:Ct S f:=fun k=>c0 8 [ce (bL.aB k)] func156
end iK
namespace ln
def S:=so 83 [31] [9] .own [.agg .bi Ps] [.l .own .str]
theorem aB:Ct S f:=fun k=>c0 39 [ce (dm.aB k),ce (aT.aB k),ce (lm.aB k),ce (iK.aB k)] func83
end ln
namespace jt
def S:=so 206 [9] [9] .own [.l .bi .str] [.l .own .str]
theorem aB:Ct S f:=fun k=>c0 6 [] func206
end jt
namespace gN
def S:=so 285 [22] [9] .own [.V] [.l .own .str]
theorem aB:Ct S f:=fun k=>c0 6 [ce (cx.aB k),ce (dr.aB k)] func285
end gN
namespace kf
def S:=so 207 [35] [9] .own [.agg .bi qU] [.l .own .str]
theorem aB:Ct S f:=fun k=>c0 19 [ce (gN.aB k)] func207
end kf
namespace fQ
def S:=so 208 [33] [9] .own [.agg .bi Dt] [.l .own .str]
def h5 (k:Nat):Lh S.Y:=⟨5,⟨[.l (.ptr 0 0),.l (.s),.I],[.box [.I,.I,.b,.b,.V,.V,.I,.I,.W,.V,.V,.I,.I,.I]]⟩,fun K v0 v1 v2 v3 v4 v5 v6 v7 v8 v9 v10 v11 v12 jD jE jd=>l5 k v10 (fun p0=>K (.exit 0) (bZ [1,2,3] [.one (.l (.je 0 0)),.N,.S p0] [some (.box 0 [.J v2,.J v3,.b v4,.b v5,.V v6,.V v7,.J v8,.J v9,.W v10,.V v11,.V v12,.J jD,.J jE,.J jd])])) k v0 v1⟩
theorem aB:Ct S f:=fun k=>c1 46 [ce (cq.aB k),ce (aT.aB k),ce (dZ.aB k)] [(5,[1,3,4]),(100005,[1,2,3])] [h5 k] func208 (all_cons ((h5 k).fit fun K r v0 v1 v2 v3 v4 v5 v6 v7 v8 v9 v10 v11 v12 jD jE jd h=>fm h (fun a m=>m a.1 a.2 v2 v3 v4 v5 v6 v7 v8 v9 v10 v11 v12 jD jE jd) fun v0 v1 _ _ _ _ _ _ _ _ _ _ _ _ _ _=>some (v0,v1)) all_nil)
end fQ
namespace gw
def S:=so 210 [22] [9] .own [.V] [.l .own .str]
def h3 (k:Nat):Lh S.Y:=⟨3,⟨[.V,.l (.s),.I],[]⟩,fun K v0 v1 v2=>l3 k v0 (fun p0=>K (.exit 0) (bZ [0,2,3] [.V v0,.N,.S p0] [])) k v1 v2⟩
theorem aB:Ct S f:=fun k=>c1 38 [ce (dZ.aB k),ce (cc.aB k)] [(3,[0,3,4]),(100003,[0,2,3])] [h3 k] func210 (all_cons ((h3 k).fit fun K r v0 v1 v2 h=>fm h (fun a m=>m v0 a.1 a.2) fun _ v1 v2=>some (v1,v2)) all_nil)
end gw
namespace iN
def S:=so 211 [25] [9] .own [.l .bi .rows] [.l .own .str]
def h3 (k:Nat):Lh S.Y:=⟨3,⟨[.W,.l (.own 0),.I],[.row false .strs]⟩,fun K v0 v1 v2=>l3 k v0 (fun p0=>K (.exit 0) (bZ [2,3] [.N,.O 0] [oS p0])) k v1 v2⟩
theorem aB:Ct S f:=fun k=>c1 31 [ce (cx.aB k),ce (dr.aB k)] [(3,[0,3,4]),(100003,[2,3])] [h3 k] func211 (all_cons ((h3 k).fit fun K r v0 v1 v2 h=>fm h (fun a m=>m v0 a.1 a.2) fun _ v1 v2=>some (v1,v2)) all_nil)
end iN
namespace dT
def S:=so 286 [35] [4] .own [.agg .bi qU] [.B]
def h5 (k:Nat):Lh S.Y:=⟨5,⟨[.l (.ptr 0 0),.l (.own 1),.I],[.box [.I,.I,.b,.b,.V,.V,.I,.I,.V,.b,.V,.I,.I,.b,.b,.V,.V,.I,.I,.W,.V,.V,.I,.I,.I,.V,.W],.V]⟩,fun K v0 _ _ _ _ _ _ _ _ _ _ _ _ _ _ _ _ _ _ _ v20 _ _ _ _ _ _ _ v28=>l5 k v20 (fun p0=>K (.exit 0) (bZ [2,3] [.N,.O 0] [oV p0])) k v0 v28⟩
theorem aB:Ct S f:=fun k=>c1 40 [ce (bQ.aB k)] [(5,[1,3,4]),(100005,[2,3])] [h5 k] func286 (all_cons ((h5 k).fit fun K r v0 v1 v2 v3 v4 v5 v6 v7 v8 v9 v10 v11 v12 jD jE jd jT kL nH nz v20 v21 nI mT v24 pO pP tc v28 h=>fm h (fun a m=>m a.1 v1 v2 v3 v4 v5 v6 v7 v8 v9 v10 v11 v12 jD jE jd jT kL nH nz v20 v21 nI mT v24 pO pP tc a.2) fun v0 _ _ _ _ _ _ _ _ _ _ _ _ _ _ _ _ _ _ _ _ _ _ _ _ _ _ _ v28=>some (v0,v28)) all_nil)
end dT
namespace pf
def S:=so 287 [35] [4] .own [.agg .bi qU] [.B]
theorem aB:Ct S f:=fun k=>c0 10 [] func287
end pf
namespace pT
def S:=so 288 [35] [4] .own [.agg .bi qU] [.B]
theorem aB:Ct S f:=fun k=>c0 9 [ce (fo.aB k)] func288
end pT
namespace nk
def S:=so 212 [35] [9] .own [.agg .bi qU] [.l .own .str]
theorem aB:Ct S f:=fun k=>c0 19 [ce (jr.aB k),ce (dT.aB k),ce (pf.aB k),ce (pT.aB k)] func212
end nk
namespace jB
def S:=so 116 [35,9] [9] .own [.agg .bi qU,.l .bi .str] [.l .own .str]
theorem aB:Ct S f:=fun k=>c0 47 [ce (eB.aB k),ce (ln.aB k),ce (jt.aB k),ce (kf.aB k),ce (fQ.aB k),ce (c_.aB k),ce (gw.aB k),ce (iN.aB k),ce (nk.aB k)] func116
end jB
namespace az
def S:=so 38 [35,9] [35,9] .own [.agg .bi qU,.l .bi .str] [.agg .own qU,.l .own .str]
theorem aB:Ct S f:=fun k=>c0 217 [ce (bm.aB k),ce (nC.aB k),ce (lh.aB k),ce (dY.aB k),ce (dQ.aB k),ce (gY.aB k),ce (rD.aB k),ce (de.aB k),ce (cN.aB k),ce (fO.aB k),ce (gZ.aB k),ce (iI.aB k),ce (nj.aB k),ce (tm.aB k),ce (jB.aB k)] func38
end az
