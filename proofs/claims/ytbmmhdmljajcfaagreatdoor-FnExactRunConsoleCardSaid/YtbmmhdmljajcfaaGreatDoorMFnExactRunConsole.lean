/- That the Go functions come to the answers of the plain ones. Printed by a program. -/
import Derived.Test.YtbmmhdmljajcfaaGreatDoorT
import Derived.Test.YtbmmhdmljajcfaaGreatDoorMImplConsoleLine
import Derived.Test.YtbmmhdmljajcfaaGreatDoorMSpecConsoleLine
import Derived.Test.YtbmmhdmljajcfaaGreatDoorFFnExactRunConsole
set_option linter.unusedVariables false
set_option maxRecDepth 100000
set_option maxHeartbeats 20000000
namespace Go.Proofs.YtbmmhdmljajcfaaGreatDoor
open Go Go.Proofs.YtbmmhdmljajcfaaGreatDoor.V Go.Proofs.YtbmmhdmljajcfaaGreatDoor.M
namespace dF
def S:=so 33 [9] [57,4] .own [.l .bi .str] [.l .own .strs,.B]
def h8 (k:Nat):Lh S.Y:=⟨8,⟨[.l (.ptr 0 0),.l (.own 12),.l (.val false false .strs),.I,.I],[.box [.I,.I,.b,.b,.own 1,.own 2,.I,.I,.own 3,.b,.own 4,.I,.I,.b,.b,.own 5,.own 6,.I,.I,.own 7,.own 8,.own 9,.I,.I,.I,.own 10,.own 11],.V,.V,.V,.V,.V,.V,.W,.V,.V,.V,.W,.row false .strs]⟩,fun K v0 v1 v2 v3 v4 v5 v6 v7 v8 v9 v10 v11 v12 jD jE jd jT kL nH nz v20 v21 nI mT v24 pO pP tc v28 wX v30=>l8 k v0 v1 (fun p0=>K (.exit 0) (bZ [2,3,6] [.N,.N,.O 0] [oS p0])) k v2 v3 v4 v5 v6 v7 v8 v9 v10 v11 v12 jD jE jd jT kL nH nz v20 v21 nI mT v24 pO pP tc v28 wX v30⟩
theorem aB:Ct S f:=fun k=>c1 49 [ce (gy.aB k),ce (cb.aB k)] [(8,[5,6,30,31,32]),(100008,[2,3,6]),(200008,[30,1000016389,1000020485,1000032773,1000040965,1000061445,1000065541,1000081925,1000086021,1000102405,1001126405,1001155077])] [h8 k] Tryz.func33 (all_cons ((h8 k).fit fun K r v0 v1 v2 v3 v4 v5 v6 v7 v8 v9 v10 v11 v12 jD jE jd jT kL nH nz v20 v21 nI mT v24 pO pP tc v28 wX v30 h=>fm h (fun a m=>m v0 v1 a.1 a.2.1 (p2 a) (p3 a) (p4 a) (p5 a) (p6 a) (p7 a) (p8 a) (p9 a) (qo a) (rA a) (qK a) (td a) (wV a) (y7 a) (y8 a) (yW a) (yX a) (y9 a) (y_ a) (za a) (yY a) (yZ a) (y0 a) (vl a) (C6 a) (Ru a) (t9 (t9 (t9 a.2)))) fun _ _ v2 v3 v4 v5 v6 v7 v8 v9 v10 v11 v12 jD jE jd jT kL nH nz v20 v21 nI mT v24 pO pP tc v28 wX v30=>some (v2,v3,v4,v5,v6,v7,v8,v9,v10,v11,v12,jD,jE,jd,jT,kL,nH,nz,v20,v21,nI,mT,v24,pO,pP,tc,v28,wX,v30)) all_nil)
end dF
namespace cF
def S:=so 34 [9] [57,4] .own [.l .bi .str] [.l .own .strs,.B]
def h4 (k:Nat):Lh S.Y:=⟨4,⟨[.l (.s),.l (.own 0),.I,.I],[.row false .strs]⟩,fun K v0 v1 v2 v3=>l4 k v0 (fun p0=>K (.exit 0) (bZ [2,3,4] [.N,.N,.O 0] [oS p0])) k v1 v2 v3⟩
def h15 (k:Nat):Lh S.Y:=⟨15,⟨[.l (.own 0),.l (.ptr 1 0),.l (.own 13),.I],[.row false .strs,.box [.I,.I,.b,.b,.own 2,.own 3,.I,.I,.own 4,.b,.own 5,.I,.I,.b,.b,.own 6,.own 7,.I,.I,.own 8,.own 9,.own 10,.I,.I,.I,.own 11,.own 12],.V,.V,.V,.V,.V,.V,.W,.V,.V,.V,.W,.row false .strs]⟩,fun K v0 v1 v2 v3 v4 v5 v6 v7 v8 v9 v10 v11 v12 jD jE jd jT kL nH nz v20 v21 nI mT v24 pO pP tc v28 wX=>l15 k v1 (fun p0=>K (.exit 2) (bZ [2,3,8] [.N,.N,.O 0] [oS p0])) k v0 v2 v3 v4 v5 v6 v7 v8 v9 v10 v11 v12 jD jE jd jT kL nH nz v20 v21 nI mT v24 pO pP tc v28 wX⟩
theorem aB:Ct S f:=fun k=>c1 75 [ce (az.aB k)] [(4,[0,4,5,6]),(100004,[2,3,4]),(15,[4,7,8,9]),(100015,[2,3,8]),(200015,[1000016391,1000020487,1000032775,1000040967,1000061447,1000065543,1000081927,1000086023,1000102407,1001126407,1001155079])] [h4 k,h15 k] Tryz.func34 (all_cons ((h4 k).fit fun K r v0 v1 v2 v3 h=>fm h (fun a m=>m v0 a.1 a.2.1 (t2 a)) fun _ v1 v2 v3=>some (v1,v2,v3)) (all_cons ((h15 k).fit fun K r v0 v1 v2 v3 v4 v5 v6 v7 v8 v9 v10 v11 v12 jD jE jd jT kL nH nz v20 v21 nI mT v24 pO pP tc v28 wX h=>fm h (fun a m=>m a.1 v1 a.2.1 (p2 a) (p3 a) (p4 a) (p5 a) (p6 a) (p7 a) (p8 a) (p9 a) (qo a) (rA a) (qK a) (td a) (wV a) (y7 a) (y8 a) (yW a) (yX a) (y9 a) (y_ a) (za a) (yY a) (yZ a) (y0 a) (vl a) (C6 a) (Ru a) (t9 (t9 (t9 a.2)))) fun v0 _ v2 v3 v4 v5 v6 v7 v8 v9 v10 v11 v12 jD jE jd jT kL nH nz v20 v21 nI mT v24 pO pP tc v28 wX=>some (v0,v2,v3,v4,v5,v6,v7,v8,v9,v10,v11,v12,jD,jE,jd,jT,kL,nH,nz,v20,v21,nI,mT,v24,pO,pP,tc,v28,wX)) all_nil))
end cF
namespace e_
def S:=so 35 [57,57] [4] .own [.l .bi .strs,.l .bi .strs] [.B]
def h4 (k:Nat):Lh S.Y:=⟨4,⟨[.l (.val false false .strs),.l (.val false false .strs),.I],[]⟩,fun K v0 v1 v2=>l4 k v0 v1 (K .ret (bZ [4] [.Q false] [])) (K (.exit 0) (bZ [4] [.N] [])) k v2⟩
theorem aB:Ct S f:=fun k=>c1 26 [] [(4,[0,1,5]),(100004,[4])] [h4 k] Tryz.func35 (all_cons ((h4 k).fit fun K r v0 v1 v2 h=>fm h (fun a m=>m v0 v1 a) fun _ _ v2=>some v2) all_nil)
end e_
namespace dW
def S:=so 104 [3] [9] .own [.I] [.l .own .str]
def h4 (k:Nat):Lh S.Y:=⟨4,⟨[.I,.l (.s)],[]⟩,fun K v0 v1=>l4 k (fun p0=>K (.exit 0) (bZ [2,3] [.N,.S p0] [])) k v0 v1⟩
theorem aB:Ct S f:=fun k=>c1 20 [] [(4,[0,3]),(100004,[2,3])] [h4 k] Tryz.func104 (all_cons ((h4 k).fit fun K r v0 v1 h=>fm h (fun a m=>m a.1 a.2) fun v0 v1=>some (v0,v1)) all_nil)
end dW
namespace eW
def S:Sp:=⟨36,⟨[57,3],[3],[.io,.qp],.own⟩,[.l .own .strs,.I],[.O,.l .own .strs]⟩
def h2 (k:Nat):Lh S.Y:=⟨2,⟨[.l (.own 0),.I,.I,.l (.own 0)],[.row false .strs]⟩,fun K v0 v1 v2=>l2 k (fun p0 p1=>K (.exit 0) (bZ [1,4,20] [.J p0,.N,.O 0] [oS p1])) k v0 v1 v2⟩
theorem aB:Ct S f:=fun k=>c1 20 [ce (dW.aB k)] [(2,[0,1,5,20]),(100002,[1,4,20])] [h2 k] Tryz.func36 (all_cons ((h2 k).fit fun K r v0 v1 v2 h=>fm h (fun a m=>m a.1 a.2.1 (t2 a)) fun v0 v1 v2=>some (v0,v1,v2)) all_nil)
end eW
namespace eo
def S:=so 37 [57,3] [3] .own [.l .bi .strs,.I] [.O]
def h2 (k:Nat):Lh S.Y:=⟨2,⟨[.l (.val false false .strs),.I,.I],[]⟩,fun K v0 v1 v2=>l2 k v0 (fun p0=>K .ret (bZ [1,4] [.J p0,.J (-1)] [])) (fun p0=>K (.exit 0) (bZ [1,4] [.J p0,.N] [])) k v1 v2⟩
theorem aB:Ct S f:=fun k=>c1 22 [ce (dW.aB k)] [(2,[0,1,5]),(100002,[1,4])] [h2 k] Tryz.func37 (all_cons ((h2 k).fit fun K r v0 v1 v2 h=>fm h (fun a m=>m v0 a.1 a.2) fun _ v1 v2=>some (v1,v2)) all_nil)
end eo
namespace iN
def S:=so 6 [9] [4] .own [.l .bi .str] [.B]
theorem aB:Ct S f:=fun k=>c0 66 [ce (dF.aB k),ce (cF.aB k),ce (e_.aB k),ce (eW.aB k),ce (eo.aB k)] Tryz.func6
end iN
end Go.Proofs.YtbmmhdmljajcfaaGreatDoor
