/- Short forms of what occurs often. Conditions: none. -/
import Derived.Test.YtbmmhdmljajcfaaGreatDoorVEval
set_option linter.unusedVariables false
namespace Go.Proofs.YtbmmhdmljajcfaaGreatDoor.V
open Go
def B5 {R A0:Type} (s:(A0->Option R)->A0->Option R) (n:Nat) (x0:A0):Option R:=iter (A:=A0) (fun rec a=>s (fun c0=>rec (c0)) a) n (x0)
theorem kz {R A0:Type} {L:Nat->A0->Option R} {s:(A0->Option R)->A0->Option R} {n:Nat} {x0:A0} {z:Option R} (e:L=B5 s) (h:s (L n) x0=z):L (n+1) x0=z:=by subst e;exact h
def mf {R A0 A1:Type} (s:(A0->A1->Option R)->A0->A1->Option R) (n:Nat) (x0:A0) (x1:A1):Option R:=iter (A:=A0×A1) (fun rec a=>s (fun c0 c1=>rec (c0,c1)) a.1 a.2) n (x0,x1)
theorem bV {R A0 A1:Type} {L:Nat->A0->A1->Option R} {s:(A0->A1->Option R)->A0->A1->Option R} {n:Nat} {x0:A0} {x1:A1} {z:Option R} (e:L=mf s) (h:s (L n) x0 x1=z):L (n+1) x0 x1=z:=by subst e;exact h
def UI {R A0 A1 A2:Type} (s:(A0->A1->A2->Option R)->A0->A1->A2->Option R) (n:Nat) (x0:A0) (x1:A1) (x2:A2):Option R:=iter (A:=A0×A1×A2) (fun rec a=>s (fun c0 c1 c2=>rec (c0,c1,c2)) a.1 a.2.1 a.2.2) n (x0,x1,x2)
theorem xr {R A0 A1 A2:Type} {L:Nat->A0->A1->A2->Option R} {s:(A0->A1->A2->Option R)->A0->A1->A2->Option R} {n:Nat} {x0:A0} {x1:A1} {x2:A2} {z:Option R} (e:L=UI s) (h:s (L n) x0 x1 x2=z):L (n+1) x0 x1 x2=z:=by subst e;exact h
def it5 {R A0 A1 A2 A3 A4:Type} (s:(A0->A1->A2->A3->A4->Option R)->A0->A1->A2->A3->A4->Option R) (n:Nat) (x0:A0) (x1:A1) (x2:A2) (x3:A3) (x4:A4):Option R:=iter (A:=A0×A1×A2×A3×A4) (fun rec a=>s (fun c0 c1 c2 c3 c4=>rec (c0,c1,c2,c3,c4)) a.1 a.2.1 a.2.2.1 a.2.2.2.1 a.2.2.2.2) n (x0,x1,x2,x3,x4)
theorem UZ {R A0 A1 A2 A3 A4:Type} {L:Nat->A0->A1->A2->A3->A4->Option R} {s:(A0->A1->A2->A3->A4->Option R)->A0->A1->A2->A3->A4->Option R} {n:Nat} {x0:A0} {x1:A1} {x2:A2} {x3:A3} {x4:A4} {z:Option R} (e:L=it5 s) (h:s (L n) x0 x1 x2 x3 x4=z):L (n+1) x0 x1 x2 x3 x4=z:=by subst e;exact h
section
variable {A0 A1 A2 A3 A4 A5 A6 A7 A8 A9 zt Bo B9 CH GR IM JZ KX L6 M9 NZ Pt QB RF S1 Uz Vs Y6 A28:Type}
abbrev p2 (r:A0×A1×A2×A3):=r.2.2.1
abbrev p3 (r:A0×A1×A2×A3×A4):=r.2.2.2.1
abbrev p4 (r:A0×A1×A2×A3×A4×A5):=r.2.2.2.2.1
abbrev p5 (r:A0×A1×A2×A3×A4×A5×A6):=r.2.2.2.2.2.1
abbrev p6 (r:A0×A1×A2×A3×A4×A5×A6×A7):=r.2.2.2.2.2.2.1
abbrev p7 (r:A0×A1×A2×A3×A4×A5×A6×A7×A8):=r.2.2.2.2.2.2.2.1
abbrev p8 (r:A0×A1×A2×A3×A4×A5×A6×A7×A8×A9):=r.2.2.2.2.2.2.2.2.1
abbrev p9 (r:A0×A1×A2×A3×A4×A5×A6×A7×A8×A9×zt):=r.2.2.2.2.2.2.2.2.2.1
abbrev qo (r:A0×A1×A2×A3×A4×A5×A6×A7×A8×A9×zt×Bo):=r.2.2.2.2.2.2.2.2.2.2.1
abbrev rA (r:A0×A1×A2×A3×A4×A5×A6×A7×A8×A9×zt×Bo×B9):=r.2.2.2.2.2.2.2.2.2.2.2.1
abbrev qK (r:A0×A1×A2×A3×A4×A5×A6×A7×A8×A9×zt×Bo×B9×CH):=r.2.2.2.2.2.2.2.2.2.2.2.2.1
abbrev td (r:A0×A1×A2×A3×A4×A5×A6×A7×A8×A9×zt×Bo×B9×CH×GR):=r.2.2.2.2.2.2.2.2.2.2.2.2.2.1
abbrev Zn (r:A0×A1×A2×A3×A4×A5×A6×A7×A8×A9×zt×Bo×B9×CH):=r.2.2.2.2.2.2.2.2.2.2.2.2.2
abbrev wV (r:A0×A1×A2×A3×A4×A5×A6×A7×A8×A9×zt×Bo×B9×CH×GR×IM):=r.2.2.2.2.2.2.2.2.2.2.2.2.2.2.1
abbrev W2 (r:A0×A1×A2×A3×A4×A5×A6×A7×A8×A9×zt×Bo×B9×CH×GR):=r.2.2.2.2.2.2.2.2.2.2.2.2.2.2
abbrev y7 (r:A0×A1×A2×A3×A4×A5×A6×A7×A8×A9×zt×Bo×B9×CH×GR×IM×JZ):=r.2.2.2.2.2.2.2.2.2.2.2.2.2.2.2.1
abbrev y8 (r:A0×A1×A2×A3×A4×A5×A6×A7×A8×A9×zt×Bo×B9×CH×GR×IM×JZ×KX):=r.2.2.2.2.2.2.2.2.2.2.2.2.2.2.2.2.1
abbrev yW (r:A0×A1×A2×A3×A4×A5×A6×A7×A8×A9×zt×Bo×B9×CH×GR×IM×JZ×KX×L6):=r.2.2.2.2.2.2.2.2.2.2.2.2.2.2.2.2.2.1
abbrev yX (r:A0×A1×A2×A3×A4×A5×A6×A7×A8×A9×zt×Bo×B9×CH×GR×IM×JZ×KX×L6×M9):=r.2.2.2.2.2.2.2.2.2.2.2.2.2.2.2.2.2.2.1
abbrev y9 (r:A0×A1×A2×A3×A4×A5×A6×A7×A8×A9×zt×Bo×B9×CH×GR×IM×JZ×KX×L6×M9×NZ):=r.2.2.2.2.2.2.2.2.2.2.2.2.2.2.2.2.2.2.2.1
abbrev y_ (r:A0×A1×A2×A3×A4×A5×A6×A7×A8×A9×zt×Bo×B9×CH×GR×IM×JZ×KX×L6×M9×NZ×Pt):=r.2.2.2.2.2.2.2.2.2.2.2.2.2.2.2.2.2.2.2.2.1
abbrev za (r:A0×A1×A2×A3×A4×A5×A6×A7×A8×A9×zt×Bo×B9×CH×GR×IM×JZ×KX×L6×M9×NZ×Pt×QB):=r.2.2.2.2.2.2.2.2.2.2.2.2.2.2.2.2.2.2.2.2.2.1
abbrev yY (r:A0×A1×A2×A3×A4×A5×A6×A7×A8×A9×zt×Bo×B9×CH×GR×IM×JZ×KX×L6×M9×NZ×Pt×QB×RF):=r.2.2.2.2.2.2.2.2.2.2.2.2.2.2.2.2.2.2.2.2.2.2.1
abbrev yZ (r:A0×A1×A2×A3×A4×A5×A6×A7×A8×A9×zt×Bo×B9×CH×GR×IM×JZ×KX×L6×M9×NZ×Pt×QB×RF×S1):=r.2.2.2.2.2.2.2.2.2.2.2.2.2.2.2.2.2.2.2.2.2.2.2.1
abbrev y0 (r:A0×A1×A2×A3×A4×A5×A6×A7×A8×A9×zt×Bo×B9×CH×GR×IM×JZ×KX×L6×M9×NZ×Pt×QB×RF×S1×Uz):=r.2.2.2.2.2.2.2.2.2.2.2.2.2.2.2.2.2.2.2.2.2.2.2.2.1
abbrev vl (r:A0×A1×A2×A3×A4×A5×A6×A7×A8×A9×zt×Bo×B9×CH×GR×IM×JZ×KX×L6×M9×NZ×Pt×QB×RF×S1×Uz×Vs):=r.2.2.2.2.2.2.2.2.2.2.2.2.2.2.2.2.2.2.2.2.2.2.2.2.2.1
abbrev C6 (r:A0×A1×A2×A3×A4×A5×A6×A7×A8×A9×zt×Bo×B9×CH×GR×IM×JZ×KX×L6×M9×NZ×Pt×QB×RF×S1×Uz×Vs×Y6):=r.2.2.2.2.2.2.2.2.2.2.2.2.2.2.2.2.2.2.2.2.2.2.2.2.2.2.1
abbrev Ji (r:A0×A1×A2×A3×A4×A5×A6×A7×A8×A9×zt×Bo×B9×CH×GR×IM×JZ×KX×L6×M9×NZ×Pt×QB×RF×S1×Uz×Vs):=r.2.2.2.2.2.2.2.2.2.2.2.2.2.2.2.2.2.2.2.2.2.2.2.2.2.2
abbrev Ru (r:A0×A1×A2×A3×A4×A5×A6×A7×A8×A9×zt×Bo×B9×CH×GR×IM×JZ×KX×L6×M9×NZ×Pt×QB×RF×S1×Uz×Vs×Y6×A28):=r.2.2.2.2.2.2.2.2.2.2.2.2.2.2.2.2.2.2.2.2.2.2.2.2.2.2.2.1
abbrev q27 (r:A0×A1×A2×A3×A4×A5×A6×A7×A8×A9×zt×Bo×B9×CH×GR×IM×JZ×KX×L6×M9×NZ×Pt×QB×RF×S1×Uz×Vs×Y6):=r.2.2.2.2.2.2.2.2.2.2.2.2.2.2.2.2.2.2.2.2.2.2.2.2.2.2.2
end
abbrev LV.J (x:Int):LV:= .i .i64 x
abbrev LV.V (x:List Int):LV:= .val false (.ints .i64 x)
abbrev LV.W (x:List (List Int)):LV:= .val false (.rows false x)
abbrev AV.N:AV:= .one (.l .any)
abbrev AV.J (x:Int):AV:= .one (.l (.J x))
abbrev AV.O (x:Nat):AV:= .one (.l (.own x))
abbrev AV.Q (x:Bool):AV:= .one (.l (.b x))
abbrev AV.S (x:ByteArray):AV:= .one (.l (.s x))
abbrev AV.V (x:List Int):AV:= .one (.l (.V x))
abbrev AV.W (x:List (List Int)):AV:= .one (.l (.W x))
abbrev oV (x:List Int):Option aQ:=some (.row 0 0 (.ints .i64 x))
abbrev oW (x:List (List Int)):Option aQ:=some (.row 0 0 (.rows true x))
abbrev oS (x:List ByteArray):Option aQ:=some (.row 0 0 (.strs x))
abbrev oB (x:List Bool):Option aQ:=some (.row 0 0 (.eQ x))
abbrev wW (E:Type):=Int×Int×Bool×Bool×List Int×List Int×Int×Int×List Int×Bool×List Int×Int×Int×Bool×Bool×List Int×List Int×Int×Int×List (List Int)×List Int×List Int×Int×Int×Int×List Int×List (List Int)×E
abbrev TB0:=Int×Int×Bool×Bool×List Int×List Int×Int×Int×List Int×Bool×List Int×Int×Int×Bool×Bool×List Int×List Int×Int×Int×List (List Int)×List Int×List Int×Int×Int×Int×List Int×List (List Int)
abbrev Nb {R:Type} (i n:Int) (x:Option R):Option R:=bY (decide (0<=i)&&decide (i<=n)) x
abbrev ux {R α:Type} (i:Int) (l:List α) (x:Option R):Option R:=bY (decide (0<=i)&&decide (i<=(l.length:Int))) x
abbrev W1 {R:Type} (i:Int) (l:ByteArray) (x:Option R):Option R:=bY (decide (0<=i)&&decide (i<=(l.size:Int))) x
abbrev Ud {R:Type} (i n:Int) (x:Option R):Option R:=bY (decide (0<=i)&&decide (i<n)) x
abbrev eU {R α:Type} (i:Int) (l:List α) (x:Option R):Option R:=bY (decide (0<=i)&&decide (i<(l.length:Int))) x
abbrev ixS {R:Type} (i:Int) (l:ByteArray) (x:Option R):Option R:=bY (decide (0<=i)&&decide (i<(l.size:Int))) x
abbrev GV {R:Type} (n:Nat) (x:Option R):Option R:=bY (decide (n*1<=room)) x
abbrev rz {R:Type} (n:Nat) (x:Option R):Option R:=bY (decide (n*16<=room)) x
abbrev wA {R:Type} (n:Nat) (x:Option R):Option R:=bY (decide (n*24<=room)) x
abbrev OR {R:Type} (n:Nat) (x:Option R):Option R:=bY (decide (n*64<=room)) x
abbrev gX {R:Type} (n:Nat) (x:Option R):Option R:=bY (decide (n*8<=room)) x
abbrev na {R:Type} (a b:ByteArray) (x:Option R):Option R:=bY (decide (a.size+b.size<=ia)) x
section
variable {A0 A1 A2 A3 A4 A5 A6 A7 A8 A9 zt Bo B9 CH GR IM JZ KX L6 M9 NZ Pt QB RF S1 Uz Vs Y6 A28 Y Z:Type}
abbrev u11 (f:A0->A1->A2->A3->A4->A5->A6->A7->A8->A9->zt->Y) (r:A0×A1×A2×A3×A4×A5×A6×A7×A8×A9×zt×Z):Y:=f r.1 r.2.1 r.2.2.1 r.2.2.2.1 r.2.2.2.2.1 r.2.2.2.2.2.1 r.2.2.2.2.2.2.1 r.2.2.2.2.2.2.2.1 r.2.2.2.2.2.2.2.2.1 r.2.2.2.2.2.2.2.2.2.1 r.2.2.2.2.2.2.2.2.2.2.1
abbrev OQ (f:A0->A1->A2->A3->A4->A5->A6->A7->A8->A9->zt->Bo->B9->CH->Y) (r:A0×A1×A2×A3×A4×A5×A6×A7×A8×A9×zt×Bo×B9×CH×Z):Y:=f r.1 r.2.1 r.2.2.1 r.2.2.2.1 r.2.2.2.2.1 r.2.2.2.2.2.1 r.2.2.2.2.2.2.1 r.2.2.2.2.2.2.2.1 r.2.2.2.2.2.2.2.2.1 r.2.2.2.2.2.2.2.2.2.1 r.2.2.2.2.2.2.2.2.2.2.1 r.2.2.2.2.2.2.2.2.2.2.2.1 r.2.2.2.2.2.2.2.2.2.2.2.2.1 r.2.2.2.2.2.2.2.2.2.2.2.2.2.1
abbrev u27 (f:A0->A1->A2->A3->A4->A5->A6->A7->A8->A9->zt->Bo->B9->CH->GR->IM->JZ->KX->L6->M9->NZ->Pt->QB->RF->S1->Uz->Vs->Y) (r:A0×A1×A2×A3×A4×A5×A6×A7×A8×A9×zt×Bo×B9×CH×GR×IM×JZ×KX×L6×M9×NZ×Pt×QB×RF×S1×Uz×Vs×Z):Y:=f r.1 r.2.1 r.2.2.1 r.2.2.2.1 r.2.2.2.2.1 r.2.2.2.2.2.1 r.2.2.2.2.2.2.1 r.2.2.2.2.2.2.2.1 r.2.2.2.2.2.2.2.2.1 r.2.2.2.2.2.2.2.2.2.1 r.2.2.2.2.2.2.2.2.2.2.1 r.2.2.2.2.2.2.2.2.2.2.2.1 r.2.2.2.2.2.2.2.2.2.2.2.2.1 r.2.2.2.2.2.2.2.2.2.2.2.2.2.1 r.2.2.2.2.2.2.2.2.2.2.2.2.2.2.1 r.2.2.2.2.2.2.2.2.2.2.2.2.2.2.2.1 r.2.2.2.2.2.2.2.2.2.2.2.2.2.2.2.2.1 r.2.2.2.2.2.2.2.2.2.2.2.2.2.2.2.2.2.1 r.2.2.2.2.2.2.2.2.2.2.2.2.2.2.2.2.2.2.1 r.2.2.2.2.2.2.2.2.2.2.2.2.2.2.2.2.2.2.2.1 r.2.2.2.2.2.2.2.2.2.2.2.2.2.2.2.2.2.2.2.2.1 r.2.2.2.2.2.2.2.2.2.2.2.2.2.2.2.2.2.2.2.2.2.1 r.2.2.2.2.2.2.2.2.2.2.2.2.2.2.2.2.2.2.2.2.2.2.1 r.2.2.2.2.2.2.2.2.2.2.2.2.2.2.2.2.2.2.2.2.2.2.2.1 r.2.2.2.2.2.2.2.2.2.2.2.2.2.2.2.2.2.2.2.2.2.2.2.2.1 r.2.2.2.2.2.2.2.2.2.2.2.2.2.2.2.2.2.2.2.2.2.2.2.2.2.1 r.2.2.2.2.2.2.2.2.2.2.2.2.2.2.2.2.2.2.2.2.2.2.2.2.2.2.1
abbrev abX (f:A0->A1->A2->A3->A4->A5->A6->A7->A8->A9->zt->Bo->B9->CH->GR->IM->JZ->KX->L6->M9->NZ->Pt->QB->RF->S1->Uz->Vs->Y) (r:A0×A1×A2×A3×A4×A5×A6×A7×A8×A9×zt×Bo×B9×CH×GR×IM×JZ×KX×L6×M9×NZ×Pt×QB×RF×S1×Uz×Vs):Y:=f r.1 r.2.1 r.2.2.1 r.2.2.2.1 r.2.2.2.2.1 r.2.2.2.2.2.1 r.2.2.2.2.2.2.1 r.2.2.2.2.2.2.2.1 r.2.2.2.2.2.2.2.2.1 r.2.2.2.2.2.2.2.2.2.1 r.2.2.2.2.2.2.2.2.2.2.1 r.2.2.2.2.2.2.2.2.2.2.2.1 r.2.2.2.2.2.2.2.2.2.2.2.2.1 r.2.2.2.2.2.2.2.2.2.2.2.2.2.1 r.2.2.2.2.2.2.2.2.2.2.2.2.2.2.1 r.2.2.2.2.2.2.2.2.2.2.2.2.2.2.2.1 r.2.2.2.2.2.2.2.2.2.2.2.2.2.2.2.2.1 r.2.2.2.2.2.2.2.2.2.2.2.2.2.2.2.2.2.1 r.2.2.2.2.2.2.2.2.2.2.2.2.2.2.2.2.2.2.1 r.2.2.2.2.2.2.2.2.2.2.2.2.2.2.2.2.2.2.2.1 r.2.2.2.2.2.2.2.2.2.2.2.2.2.2.2.2.2.2.2.2.1 r.2.2.2.2.2.2.2.2.2.2.2.2.2.2.2.2.2.2.2.2.2.1 r.2.2.2.2.2.2.2.2.2.2.2.2.2.2.2.2.2.2.2.2.2.2.1 r.2.2.2.2.2.2.2.2.2.2.2.2.2.2.2.2.2.2.2.2.2.2.2.1 r.2.2.2.2.2.2.2.2.2.2.2.2.2.2.2.2.2.2.2.2.2.2.2.2.1 r.2.2.2.2.2.2.2.2.2.2.2.2.2.2.2.2.2.2.2.2.2.2.2.2.2.1 r.2.2.2.2.2.2.2.2.2.2.2.2.2.2.2.2.2.2.2.2.2.2.2.2.2.2
abbrev abU (f:A0->A1->A2->A3->A4->A5->A6->A7->A8->A9->zt->Bo->B9->CH->GR->IM->JZ->KX->L6->M9->NZ->Pt->QB->RF->S1->Uz->Vs->Y6->Y) (r:A0×A1×A2×A3×A4×A5×A6×A7×A8×A9×zt×Bo×B9×CH×GR×IM×JZ×KX×L6×M9×NZ×Pt×QB×RF×S1×Uz×Vs×Y6):Y:=f r.1 r.2.1 r.2.2.1 r.2.2.2.1 r.2.2.2.2.1 r.2.2.2.2.2.1 r.2.2.2.2.2.2.1 r.2.2.2.2.2.2.2.1 r.2.2.2.2.2.2.2.2.1 r.2.2.2.2.2.2.2.2.2.1 r.2.2.2.2.2.2.2.2.2.2.1 r.2.2.2.2.2.2.2.2.2.2.2.1 r.2.2.2.2.2.2.2.2.2.2.2.2.1 r.2.2.2.2.2.2.2.2.2.2.2.2.2.1 r.2.2.2.2.2.2.2.2.2.2.2.2.2.2.1 r.2.2.2.2.2.2.2.2.2.2.2.2.2.2.2.1 r.2.2.2.2.2.2.2.2.2.2.2.2.2.2.2.2.1 r.2.2.2.2.2.2.2.2.2.2.2.2.2.2.2.2.2.1 r.2.2.2.2.2.2.2.2.2.2.2.2.2.2.2.2.2.2.1 r.2.2.2.2.2.2.2.2.2.2.2.2.2.2.2.2.2.2.2.1 r.2.2.2.2.2.2.2.2.2.2.2.2.2.2.2.2.2.2.2.2.1 r.2.2.2.2.2.2.2.2.2.2.2.2.2.2.2.2.2.2.2.2.2.1 r.2.2.2.2.2.2.2.2.2.2.2.2.2.2.2.2.2.2.2.2.2.2.1 r.2.2.2.2.2.2.2.2.2.2.2.2.2.2.2.2.2.2.2.2.2.2.2.1 r.2.2.2.2.2.2.2.2.2.2.2.2.2.2.2.2.2.2.2.2.2.2.2.2.1 r.2.2.2.2.2.2.2.2.2.2.2.2.2.2.2.2.2.2.2.2.2.2.2.2.2.1 r.2.2.2.2.2.2.2.2.2.2.2.2.2.2.2.2.2.2.2.2.2.2.2.2.2.2.1 r.2.2.2.2.2.2.2.2.2.2.2.2.2.2.2.2.2.2.2.2.2.2.2.2.2.2.2
abbrev u8 (f:A0->A1->A2->A3->A4->A5->A6->A7->Y) (r:A0×A1×A2×A3×A4×A5×A6×A7×Z):Y:=f r.1 r.2.1 r.2.2.1 r.2.2.2.1 r.2.2.2.2.1 r.2.2.2.2.2.1 r.2.2.2.2.2.2.1 r.2.2.2.2.2.2.2.1
abbrev u8l (f:A0->A1->A2->A3->A4->A5->A6->A7->Y) (r:A0×A1×A2×A3×A4×A5×A6×A7):Y:=f r.1 r.2.1 r.2.2.1 r.2.2.2.1 r.2.2.2.2.1 r.2.2.2.2.2.1 r.2.2.2.2.2.2.1 r.2.2.2.2.2.2.2
abbrev u9 (f:A0->A1->A2->A3->A4->A5->A6->A7->A8->Y) (r:A0×A1×A2×A3×A4×A5×A6×A7×A8×Z):Y:=f r.1 r.2.1 r.2.2.1 r.2.2.2.1 r.2.2.2.2.1 r.2.2.2.2.2.1 r.2.2.2.2.2.2.1 r.2.2.2.2.2.2.2.1 r.2.2.2.2.2.2.2.2.1
abbrev PT (r:A0×A1×A2×A3×A4×A5×A6×A7×A8×A9×zt×Bo×B9×CH) (x:Y):=(r.1,r.2.1,r.2.2.1,r.2.2.2.1,r.2.2.2.2.1,r.2.2.2.2.2.1,r.2.2.2.2.2.2.1,r.2.2.2.2.2.2.2.1,r.2.2.2.2.2.2.2.2.1,r.2.2.2.2.2.2.2.2.2.1,r.2.2.2.2.2.2.2.2.2.2.1,r.2.2.2.2.2.2.2.2.2.2.2.1,r.2.2.2.2.2.2.2.2.2.2.2.2.1,r.2.2.2.2.2.2.2.2.2.2.2.2.2,x)
abbrev oR (r:A0×A1×A2×A3×A4×A5×A6×A7×A8×A9×zt×Bo×B9×CH×GR×IM×JZ×KX×L6×M9×NZ×Pt×QB×RF×S1×Uz×Vs) (x:Y):=(r.1,r.2.1,r.2.2.1,r.2.2.2.1,r.2.2.2.2.1,r.2.2.2.2.2.1,r.2.2.2.2.2.2.1,r.2.2.2.2.2.2.2.1,r.2.2.2.2.2.2.2.2.1,r.2.2.2.2.2.2.2.2.2.1,r.2.2.2.2.2.2.2.2.2.2.1,r.2.2.2.2.2.2.2.2.2.2.2.1,r.2.2.2.2.2.2.2.2.2.2.2.2.1,r.2.2.2.2.2.2.2.2.2.2.2.2.2.1,r.2.2.2.2.2.2.2.2.2.2.2.2.2.2.1,r.2.2.2.2.2.2.2.2.2.2.2.2.2.2.2.1,r.2.2.2.2.2.2.2.2.2.2.2.2.2.2.2.2.1,r.2.2.2.2.2.2.2.2.2.2.2.2.2.2.2.2.2.1,r.2.2.2.2.2.2.2.2.2.2.2.2.2.2.2.2.2.2.1,r.2.2.2.2.2.2.2.2.2.2.2.2.2.2.2.2.2.2.2.1,r.2.2.2.2.2.2.2.2.2.2.2.2.2.2.2.2.2.2.2.2.1,r.2.2.2.2.2.2.2.2.2.2.2.2.2.2.2.2.2.2.2.2.2.1,r.2.2.2.2.2.2.2.2.2.2.2.2.2.2.2.2.2.2.2.2.2.2.1,r.2.2.2.2.2.2.2.2.2.2.2.2.2.2.2.2.2.2.2.2.2.2.2.1,r.2.2.2.2.2.2.2.2.2.2.2.2.2.2.2.2.2.2.2.2.2.2.2.2.1,r.2.2.2.2.2.2.2.2.2.2.2.2.2.2.2.2.2.2.2.2.2.2.2.2.2.1,r.2.2.2.2.2.2.2.2.2.2.2.2.2.2.2.2.2.2.2.2.2.2.2.2.2.2,x)
abbrev z8 (r:A0×A1×A2×A3×A4×A5×A6×A7×Z) (x:Y):=(r.1,r.2.1,r.2.2.1,r.2.2.2.1,r.2.2.2.2.1,r.2.2.2.2.2.1,r.2.2.2.2.2.2.1,r.2.2.2.2.2.2.2.1,x)
abbrev Wf (r:A0×A1×A2×A3×A4×A5×A6×A7) (x:Y):=(r.1,r.2.1,r.2.2.1,r.2.2.2.1,r.2.2.2.2.1,r.2.2.2.2.2.1,r.2.2.2.2.2.2.1,r.2.2.2.2.2.2.2,x)
end
abbrev eT0 (R:Type):=List (List Int)->Option R
abbrev eT1 (R:Type):=Int->List (List Int)->Option R
abbrev eT2 (R:Type):=Int->List ByteArray->Option R
abbrev eT3 (R:Type):=List ByteArray->Option R
abbrev Hu (R:Type):=Int->Option R
abbrev eT5 (R:Type):=Int->Int->Option R
abbrev L5 (R:Type):=List Int->Option R
abbrev eT7 (R:Type):=Int->List Int->Option R
abbrev eT8 (R:Type):=List Int->List Int->Option R
abbrev eT9 (R:Type):=Int->List (List Int)->List Int->List Int->Option R
abbrev abH (R:Type):=Int->Int->Int->Bool->Bool->Int->Int->Int->Int->Int->List Int->List Int->List (List Int)->List Int->List Int->Option R
abbrev abY (R:Type):=Int->Int->Bool->Bool->Int->Int->Int->Int->Int->List Int->List Int->List (List Int)->List Int->List Int->Option R
abbrev acb (R:Type):=Int->Int->Bool->Bool->Int->Int->Bool->Int->Int->Bool->Bool->Int->Int->Int->Int->Int->List Int->List Int->List Int->List Int->List Int->List Int->List (List Int)->List Int->List Int->List Int->List (List Int)->Option R
abbrev adU (R:Type):=Int->Int->Int->Bool->Bool->Int->Int->Bool->Int->Int->Bool->Bool->Int->Int->Int->Int->Int->List Int->List Int->List Int->List Int->List Int->List Int->List (List Int)->List Int->List Int->List Int->List (List Int)->Option R
abbrev aa8 (R:Type):=ByteArray->Option R
abbrev aby (R:Type):=ByteArray->Int->Option R
abbrev abI (R:Type):=Bool->Option R
abbrev adV (R:Type):=Int->Int->Bool->Bool->Int->Int->Bool->Int->Int->Bool->Bool->Int->Int->Int->Int->Int->List Int->List Int->List Int->List Int->List Int->List Int->List (List Int)->List Int->List Int->List Int->List (List Int)->Int->Int->Bool->Bool->Int->Int->Bool->Int->Int->Bool->Bool->Int->Int->Int->Int->Int->List Int->List Int->List Int->List Int->List Int->List Int->List (List Int)->List Int->List Int->List Int->List (List Int)->Option R
abbrev aF (n:Int):Int:=IntKind.wrap .i64 n
abbrev oU:ByteArray:=⟨#[50,51,52,53,54,55,56,57,84,74,81,75,65]⟩
abbrev rj:ByteArray:=⟨#[115,101,116,116,108,101]⟩
abbrev Jj:ByteArray:=⟨#[112,108,97,121,101,114,115,61]⟩
abbrev Nc:ByteArray:=⟨#[98,101,103,105,110]⟩
abbrev D2:ByteArray:=⟨#[114,101,99,111,114,100]⟩
abbrev B6:ByteArray:=⟨#[115,104,101,101,116]⟩
abbrev H3:ByteArray:=⟨#[116,97,107,101]⟩
abbrev zb:ByteArray:=⟨#[97,117,116,111]⟩
abbrev H4:ByteArray:=⟨#[116,97,98,108,101]⟩
abbrev D1:ByteArray:=⟨#[110,101,119]⟩
abbrev Az:ByteArray:=⟨#[114,117,108,101,115]⟩
abbrev ri:ByteArray:=⟨#[97,117,100,105,116]⟩
abbrev uz:ByteArray:=⟨#[32]⟩
abbrev D5:ByteArray:=⟨#[109,101,108,100,115]⟩
abbrev qw:ByteArray:=⟨#[112,108,97,121]⟩
abbrev oP:ByteArray:=⟨#[32,109,97,116,99,104,61]⟩
abbrev wY:ByteArray:=⟨#[32,101,97,99,104,61]⟩
abbrev yK:ByteArray:=⟨#[99,111,117,110,116]⟩
abbrev w7:ByteArray:=⟨#[103,97,109,101]⟩
abbrev uA:ByteArray:=⟨#[58]⟩
abbrev Cb:ByteArray:=⟨#[108,101,102,116]⟩
abbrev Hk:ByteArray:=⟨#[107,105,110,100]⟩
abbrev zM:ByteArray:=⟨#[119,105,110,115]⟩
abbrev w8:ByteArray:=⟨#[32,119,105,108,100,61]⟩
abbrev B_:ByteArray:=⟨#[115,101,101]⟩
abbrev wZ:ByteArray:=⟨#[99,100,104,115]⟩
abbrev zK:ByteArray:=⟨#[119,104,97,116]⟩
abbrev zL:ByteArray:=⟨#[99,97,110]⟩
abbrev wM:ByteArray:=⟨#[32,115,107,105,112,61]⟩
abbrev K3:ByteArray:=⟨#[45]⟩
abbrev Ax:ByteArray:=⟨#[40]⟩
abbrev yJ:ByteArray:=⟨#[110,111]⟩
abbrev w6:ByteArray:=⟨#[115,116,114,97,105,103,104,116,102,108,117,115,104]⟩
abbrev Ay:ByteArray:=⟨#[32,116,97,107,101,61]⟩
abbrev D4:ByteArray:=⟨#[32,108,105,109,105,116,61]⟩
abbrev PW:ByteArray:=⟨#[111,107]⟩
abbrev Hj:ByteArray:=⟨#[108,105,109,105,116,61]⟩
abbrev D3:ByteArray:=⟨#[63]⟩
abbrev Xe:ByteArray:=⟨#[115,116,114,97,105,103,104,116]⟩
abbrev UQ:ByteArray:=⟨#[109,97,116,99,104,61]⟩
abbrev Jh:ByteArray:=⟨#[115,117,105,116]⟩
abbrev RX:ByteArray:=⟨#[44]⟩
abbrev UP:ByteArray:=⟨#[32,111,102,102]⟩
abbrev yL:ByteArray:=⟨#[114,97,110,107]⟩
abbrev Xa:ByteArray:=⟨#[119,105,108,100,61]⟩
abbrev R0:ByteArray:=⟨#[115,107,105,112,61]⟩
abbrev RY:ByteArray:=⟨#[116,97,107,101,61]⟩
abbrev UL:ByteArray:=⟨#[101,97,99,104,61]⟩
abbrev UM:ByteArray:=⟨#[41]⟩
abbrev UN:ByteArray:=⟨#[124]⟩
abbrev Nd:ByteArray:=⟨#[32,111,110]⟩
abbrev UO:ByteArray:=⟨#[38]⟩
abbrev UK:ByteArray:=⟨#[116,104,114,101,101]⟩
abbrev RZ:ByteArray:=⟨#[102,108,117,115,104]⟩
abbrev Nf:ByteArray:=⟨#[99,97,114,100,115]⟩
abbrev W_:ByteArray:=⟨#[104]⟩
abbrev Xb:ByteArray:=⟨#[104,105,103,104]⟩
abbrev Jg:ByteArray:=⟨#[102,117,108,108]⟩
abbrev W7:ByteArray:=⟨#[102,111,117,114]⟩
abbrev Xc:ByteArray:=⟨#[112,97,105,114]⟩
abbrev Xd:ByteArray:=⟨#[98,111,116,104]⟩
abbrev W8:ByteArray:=⟨#[33]⟩
