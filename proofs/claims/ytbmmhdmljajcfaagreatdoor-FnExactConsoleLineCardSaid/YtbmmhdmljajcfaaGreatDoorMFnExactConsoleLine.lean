/- That the Go functions come to the answers of the plain ones. Printed by a program. -/
import Derived.Test.YtbmmhdmljajcfaaGreatDoorMImplConsoleLine
import Derived.Test.YtbmmhdmljajcfaaGreatDoorMSpecConsoleLine
import Derived.Test.YtbmmhdmljajcfaaGreatDoorFFnExactConsoleLine
set_option linter.unusedVariables false
set_option maxRecDepth 100000
set_option maxHeartbeats 20000000
namespace Go.Proofs.YtbmmhdmljajcfaaGreatDoor
open Go V M Go.Proofs.Tryz
namespace ey
def S:=so 40 [22,3] [3] .own [.V,.I] [.O]
theorem aB:Ct S f:=fun k=>c0 12 [] func40
end ey
namespace Du
def S:=so 39 [24,3] [3] .own [.agg .bi Ps,.I] [.O]
theorem aB:Ct S f:=fun k=>c0 18 [ce (ey.aB k)] func39
end Du
namespace eW
def S:=so 42 [25,3] [3] .own [.l .bi .rows,.I] [.O]
def h5 (k:Nat):Lh S.Y:=⟨5,⟨[.W,.I,.I],[]⟩,fun K v0 v1 v2=>l5 k v0 (fun p0=>K .ret (bZ [1,4] [.J p0,.J (-1)] [])) (fun p0=>K (.exit 0) (bZ [1,4] [.J p0,.N] [])) k v1 v2⟩
theorem aB:Ct S f:=fun k=>c1 27 [ce (ey.aB k)] [(5,[0,1,5]),(100005,[1,4])] [h5 k] func42 (all_cons ((h5 k).fit fun K r v0 v1 v2 h=>fm h (fun a m=>m v0 a.1 a.2) fun _ v1 v2=>some (v1,v2)) all_nil)
end eW
namespace NT
def S:=so 41 [27,3] [3] .own [.agg .bi Dt,.I] [.O]
theorem aB:Ct S f:=fun k=>c0 30 [ce (Du.aB k),ce (ey.aB k),ce (eW.aB k)] func41
end NT
namespace L4
def S:=so 8 [29,3] [3] .own [.agg .bi qU,.I] [.O]
theorem aB:Ct S f:=fun k=>c0 42 [ce (Du.aB k),ce (ey.aB k),ce (NT.aB k),ce (eW.aB k)] func8
end L4
namespace eb
def S:=so 47 [22] [22] .own [.V] [.l .own (.ints .i64)]
def h3 (k:Nat):Lh S.Y:=⟨3,⟨[.V,.l (.own 0),.I],[.V]⟩,fun K v0 v1 v2=>l3 k v0 (fun p0=>K (.exit 0) (bZ [2,3] [.N,.O 0] [oV p0])) k v1 v2⟩
theorem aB:Ct S f:=fun k=>c1 22 [] [(3,[0,3,4]),(100003,[2,3])] [h3 k] func47 (all_cons ((h3 k).fit fun K r v0 v1 v2 h=>fm h (fun a m=>m v0 a.1 a.2) fun _ v1 v2=>some (v1,v2)) all_nil)
end eb
namespace Ea
def S:=so 46 [24] [31] .own [.agg .bi Ps] [.agg .own Ps]
theorem aB:Ct S f:=fun k=>c0 31 [ce (eb.aB k)] func46
end Ea
namespace lT
def S:=so 49 [25] [25] .own [.l .bi .rows] [.l .own .rows]
def h3 (k:Nat):Lh S.Y:=⟨3,⟨[.W,.l (.own 0),.I],[.W]⟩,fun K v0 v1 v2=>l3 k v0 (fun p0=>K (.exit 0) (bZ [2,3] [.N,.O 0] [oW p0])) k v1 v2⟩
theorem aB:Ct S f:=fun k=>c1 23 [ce (eb.aB k)] [(3,[0,3,4]),(100003,[2,3])] [h3 k] func49 (all_cons ((h3 k).fit fun K r v0 v1 v2 h=>fm h (fun a m=>m v0 a.1 a.2) fun _ v1 v2=>some (v1,v2)) all_nil)
end lT
namespace NU
def S:=so 48 [27] [33] .own [.agg .bi Dt] [.agg .own Dt]
theorem aB:Ct S f:=fun k=>c0 30 [ce (Ea.aB k),ce (eb.aB k),ce (lT.aB k)] func48
end NU
namespace tH
def S:=so 10 [29] [35] .own [.agg .bi qU] [.agg .own qU]
theorem aB:Ct S f:=fun k=>c0 32 [ce (Ea.aB k),ce (eb.aB k),ce (NU.aB k),ce (lT.aB k)] func10
end tH
namespace eo
def S:=so 54 [22,22] [4] .own [.V,.V] [.B]
def h4 (k:Nat):Lh S.Y:=⟨4,⟨[.V,.V,.I],[]⟩,fun K v0 v1 v2=>l4 k v0 v1 (K .ret (bZ [4] [.Q false] [])) (K (.exit 0) (bZ [4] [.N] [])) k v2⟩
theorem aB:Ct S f:=fun k=>c1 26 [] [(4,[0,1,5]),(100004,[4])] [h4 k] func54 (all_cons ((h4 k).fit fun K r v0 v1 v2 h=>fm h (fun a m=>m v0 v1 a) fun _ _ v2=>some v2) all_nil)
end eo
namespace FC
def S:=so 53 [31,31] [4] .own [.agg .bi Ps,.agg .bi Ps] [.B]
theorem aB:Ct S f:=fun k=>c0 47 [ce (eo.aB k)] func53
end FC
namespace qF
def S:=so 56 [25,25] [4] .own [.l .bi .rows,.l .bi .rows] [.B]
def h4 (k:Nat):Lh S.Y:=⟨4,⟨[.W,.W,.I],[]⟩,fun K v0 v1 v2=>l4 k v0 v1 (K .ret (bZ [4] [.Q false] [])) (K (.exit 0) (bZ [4] [.N] [])) k v2⟩
theorem aB:Ct S f:=fun k=>c1 27 [ce (eo.aB k)] [(4,[0,1,5]),(100004,[4])] [h4 k] func56 (all_cons ((h4 k).fit fun K r v0 v1 v2 h=>fm h (fun a m=>m v0 v1 a) fun _ _ v2=>some v2) all_nil)
end qF
namespace NV
def S:=so 55 [33,33] [4] .own [.agg .bi Dt,.agg .bi Dt] [.B]
theorem aB:Ct S f:=fun k=>c0 44 [ce (FC.aB k),ce (eo.aB k),ce (qF.aB k)] func55
end NV
namespace xA
def S:=so 12 [35,35] [4] .own [.agg .bi qU,.agg .bi qU] [.B]
theorem aB:Ct S f:=fun k=>c0 46 [ce (FC.aB k),ce (eo.aB k),ce (NV.aB k),ce (qF.aB k)] func12
end xA
namespace dF
def S:Sp:=⟨58,⟨[22,3],[3],[.io,.qp],.own⟩,[.l .own (.ints .i64),.I],[.O,.l .own (.ints .i64)]⟩
def h2 (k:Nat):Lh S.Y:=⟨2,⟨[.l (.own 0),.I,.I,.l (.own 0)],[.V]⟩,fun K v0 v1 v2=>l2 k (fun p0 p1=>K (.exit 0) (bZ [1,4,19] [.J p0,.N,.O 0] [oV p1])) k v0 v1 v2⟩
theorem aB:Ct S f:=fun k=>c1 19 [] [(2,[0,1,5,19]),(100002,[1,4,19])] [h2 k] func58 (all_cons ((h2 k).fit fun K r v0 v1 v2 h=>fm h (fun a m=>m a.1 a.2.1 (t2 a)) fun v0 v1 v2=>some (v0,v1,v2)) all_nil)
end dF
namespace xB
def S:Sp:=⟨57,⟨[31,3],[3],[.io,.qp],.own⟩,[.agg .own Ps,.I],[.O,.agg .own Ps]⟩
theorem aB:Ct S f:=fun k=>c0 14 [ce (dF.aB k)] func57
end xB
namespace e_
def S:Sp:=⟨60,⟨[25,3],[3],[.io,.qp],.own⟩,[.l .own .rows,.I],[.O,.l .own .rows]⟩
def h2 (k:Nat):Lh S.Y:=⟨2,⟨[.l (.own 0),.I,.I,.l (.own 0)],[.W]⟩,fun K v0 v1 v2=>l2 k (fun p0 p1=>K (.exit 0) (bZ [1,4,19] [.J p0,.N,.O 0] [oW p1])) k v0 v1 v2⟩
theorem aB:Ct S f:=fun k=>c1 19 [ce (dF.aB k)] [(2,[0,1,5,19]),(100002,[1,4,19])] [h2 k] func60 (all_cons ((h2 k).fit fun K r v0 v1 v2 h=>fm h (fun a m=>m a.1 a.2.1 (t2 a)) fun v0 v1 v2=>some (v0,v1,v2)) all_nil)
end e_
namespace JX
def S:Sp:=⟨59,⟨[33,3],[3],[.io,.qp],.own⟩,[.agg .own Dt,.I],[.O,.agg .own Dt]⟩
theorem aB:Ct S f:=fun k=>c0 22 [ce (xB.aB k),ce (dF.aB k),ce (e_.aB k)] func59
end JX
namespace Bl
def S:Sp:=⟨13,⟨[35,3],[3],[.io,.qp],.own⟩,[.agg .own qU,.I],[.O,.agg .own qU]⟩
theorem aB:Ct S f:=fun k=>c0 30 [ce (xB.aB k),ce (dF.aB k),ce (JX.aB k),ce (e_.aB k)] func13
end Bl
namespace dW
def S:=so 62 [22,3] [3] .own [.V,.I] [.O]
def h2 (k:Nat):Lh S.Y:=⟨2,⟨[.V,.I,.I],[]⟩,fun K v0 v1 v2=>l2 k v0 (fun p0=>K .ret (bZ [1,4] [.J p0,.J (-1)] [])) (fun p0=>K (.exit 0) (bZ [1,4] [.J p0,.N] [])) k v1 v2⟩
theorem aB:Ct S f:=fun k=>c1 21 [] [(2,[0,1,5]),(100002,[1,4])] [h2 k] func62 (all_cons ((h2 k).fit fun K r v0 v1 v2 h=>fm h (fun a m=>m v0 a.1 a.2) fun _ v1 v2=>some (v1,v2)) all_nil)
end dW
namespace zq
def S:=so 61 [31,3] [3] .own [.agg .bi Ps,.I] [.O]
theorem aB:Ct S f:=fun k=>c0 18 [ce (dW.aB k)] func61
end zq
namespace lr
def S:=so 64 [25,3] [3] .own [.l .bi .rows,.I] [.O]
def h2 (k:Nat):Lh S.Y:=⟨2,⟨[.W,.I,.I],[]⟩,fun K v0 v1 v2=>l2 k v0 (fun p0=>K .ret (bZ [1,4] [.J p0,.J (-1)] [])) (fun p0=>K (.exit 0) (bZ [1,4] [.J p0,.N] [])) k v1 v2⟩
theorem aB:Ct S f:=fun k=>c1 21 [ce (dW.aB k)] [(2,[0,1,5]),(100002,[1,4])] [h2 k] func64 (all_cons ((h2 k).fit fun K r v0 v1 v2 h=>fm h (fun a m=>m v0 a.1 a.2) fun _ v1 v2=>some (v1,v2)) all_nil)
end lr
namespace L3
def S:=so 63 [33,3] [3] .own [.agg .bi Dt,.I] [.O]
theorem aB:Ct S f:=fun k=>c0 30 [ce (zq.aB k),ce (dW.aB k),ce (lr.aB k)] func63
end L3
namespace Ds
def S:=so 14 [35,3] [3] .own [.agg .bi qU,.I] [.O]
theorem aB:Ct S f:=fun k=>c0 42 [ce (zq.aB k),ce (dW.aB k),ce (L3.aB k),ce (lr.aB k)] func14
end Ds
namespace rr
def S:=so 7 [29,9] [4] .own [.agg .bi qU,.l .bi .str] [.B]
theorem aB:Ct S f:=fun k=>c0 104 [ce (L4.aB k),ce (tH.aB k),ce (xA.aB k),ce (Bl.aB k),ce (Ds.aB k),ce (gy.aB k),ce (az.aB k)] func7
end rr
