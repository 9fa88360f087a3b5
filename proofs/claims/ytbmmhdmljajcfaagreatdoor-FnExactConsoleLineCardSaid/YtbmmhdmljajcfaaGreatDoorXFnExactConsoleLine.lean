/- Sizes, copies, comparisons in plain Lean. Conditions: enough rounds, what the statement's guard lets pass. Printed by a program. -/
import Derived.Test.YtbmmhdmljajcfaaGreatDoorKit
import Derived.Test.YtbmmhdmljajcfaaGreatDoorFFnExactConsoleLine
set_option linter.unusedVariables false
set_option linter.unusedSimpArgs false
namespace Go.Proofs.YtbmmhdmljajcfaaGreatDoor
open Go V
theorem ey.eq (k:Nat) {v:LI} {left:Int} (hl:left<=1048576) (hl0:0<=left) (hv:v.length<=maxLen): ∃r,ey.f k v left=some r/\(r<0\/(0<=r/\r<=1048576/\v.length<1048577)):=by
 have hv:v.length<=9223372036854775807:=hv
 unfold ey.f
 rw[wrap_i64]
 by_cases h:left-(v.length:Int)<0
 ·exact ⟨-1,jV (ae h),.inl (by omega)⟩
 ·exact ⟨_,br (aC h),.inr ⟨by omega,by omega,by omega⟩⟩
theorem Du.eq {k:Nat} (hk:cy<=k) {a0:Int} {a1:Int} {a2:Bool} {a3:Bool} {a4:LI} {a5:LI} {a6:Int} {a7:Int} {left:Int} (hl:left<=1048576) (hl0:0<=left) (h0:a4.length<=maxLen) (h1:a5.length<=maxLen): ∃r,Du.f k a0 a1 a2 a3 a4 a5 a6 a7 left=some r/\(r<0\/(0<=r/\r<=1048576/\(a4.length<1048577)/\(a5.length<1048577))):=by
 obtain ⟨r0,e0,c0⟩:=ey.eq k hl hl0 h0
 rcases c0 with c0| ⟨p0,q0,ab7⟩
 ·exact ⟨-1,bS e0 (jV (ae c0)),.inl (by omega)⟩
 obtain ⟨r1,e1,c1⟩:=ey.eq k q0 p0 h1
 rcases c1 with c1| ⟨p1,q1,ab8⟩
 ·exact ⟨-1,bS e0<|bF aC<|bS e1 (jV (ae c1)),.inl (by omega)⟩
 exact ⟨r1,bS e0<|bF aC<|bS e1<|bF aC<|rfl,.inr ⟨p1,q1,ab7,ab8⟩⟩
theorem eW.loop {k:Nat} (hk:cy<=k) (v:LL) {R:Type} (e0 e1:Int->Option R) (hv:v.length<1048577) (zc: ∀y∈v,y.length<=maxLen): ∀(m i n:Nat) (left:Int),i+m=v.length->m<n->0<=left->left<=1048576-> ∃r,(eW.l5 k v e0 e1 n left (i:Int)=e0 r/\r<0)\/(eW.l5 k v e0 e1 n left (i:Int)=e1 r/\0<=r/\r<=1048576/\ ∀y∈v.drop i,y.length<1048577):=by
 intro m
 induction m with
 |zero=>
  intro i n left hi hn h0 h1
  obtain ⟨n,rfl⟩: ∃n',n=n' +1:=⟨n-1,by omega⟩
  exact ⟨left,.inr ⟨bV rfl (br aC),h0,h1,by rw[aZ (by omega)];simp⟩⟩
 |succ m ih=>
  intro i n left hi hn h0 h1
  obtain ⟨n,rfl⟩: ∃n',n=n' +1:=⟨n-1,by omega⟩
  have tu:i<v.length:=by omega
  have hm:=zc _ (aj tu)
  obtain ⟨r,hr,hc⟩:=ey.eq k (v:=v[i]) h1 h0 hm
  have step:eW.l5 k v e0 e1 (n+1) left (i:Int)=(bif decide (r<0) then e0 r else eW.l5 k v e0 e1 n r (aF ((i:Int)+1))):=by
   refine bV rfl ?_
   refine bT ae ?_
   refine cT (cg tu) ?_
   rw[aa,aN _ tu]
   exact bN hr
  rcases hc with hc| ⟨hc,h2,hs⟩
  ·exact ⟨r,.inl ⟨step.trans (jV (ae hc)),hc⟩⟩
  ·rw[br aC,aK] at step
   obtain ⟨r',hh⟩:=ih (i+1) n r (by omega) (by omega) hc h2
   refine ⟨r',?_⟩
   rw[step,drop_cons tu]
   rcases hh with hh| ⟨g1,g2,g3,g4⟩
   ·exact .inl hh
   ·refine .inr ⟨g1,g2,g3,fun y hy=> ?_⟩
    rcases List.mem_cons.1 hy with rfl|hy
    ·exact hs
    ·exact g4 y hy
theorem eW.eq {k:Nat} (hk:cy<=k) {v:LL} {left:Int} (hl:left<=1048576) (hl0:0<=left) (hv:v.length<=maxLen) (zc: ∀y∈v,y.length<=maxLen): ∃r,eW.f k v left=some r/\(r<0\/(0<=r/\r<=1048576/\v.length<1048577/\ ∀y∈v,y.length<1048577)):=by
 have hv:v.length<=9223372036854775807:=hv
 unfold eW.f
 rw[wrap_i64]
 by_cases h:left-(v.length:Int)<0
 ·exact ⟨-1,jV (ae h),.inl (by omega)⟩
 ·rw[br (aC h)]
  obtain ⟨r,hr⟩:=eW.loop hk v (fun x2=>some (-1:Int)) (fun x3=>some x3) (by omega) zc v.length 0 k (left-(v.length:Int)) (by omega) (by simp[cy] at hk;omega) (by omega) (by omega)
  rcases hr with ⟨g1,g2⟩| ⟨g1,g2,g3,g4⟩
  ·exact ⟨-1,g1,.inl (by omega)⟩
  ·refine ⟨r,g1,.inr ⟨g2,g3,by omega,?_⟩⟩
   rw[ah] at g4;exact g4
theorem NT.eq {k:Nat} (hk:cy<=k) {a0:Int} {a1:Int} {a2:Bool} {a3:Bool} {a4:LI} {a5:LI} {a6:Int} {a7:Int} {a8:LL} {a9:LI} {da:LI} {cS:Int} {a12:Int} {dh:Int} {left:Int} (hl:left<=1048576) (hl0:0<=left) (h0:a4.length<=maxLen) (h1:a5.length<=maxLen) (h2:a8.length<=maxLen) (h3: ∀y∈a8,y.length<=maxLen) (h4:a9.length<=maxLen) (h5:da.length<=maxLen): ∃r,NT.f k a0 a1 a2 a3 a4 a5 a6 a7 a8 a9 da cS a12 dh left=some r/\(r<0\/(0<=r/\r<=1048576/\(a4.length<1048577)/\(a5.length<1048577)/\(a8.length<1048577)/\(∀y∈a8,y.length<1048577)/\(a9.length<1048577)/\(da.length<1048577))):=by
 obtain ⟨r0,e0,c0⟩:=Du.eq hk hl hl0 h0 h1
 rcases c0 with c0| ⟨p0,q0,ab7,adO⟩
 ·exact ⟨-1,bS e0 (jV (ae c0)),.inl (by omega)⟩
 obtain ⟨r1,e1,c1⟩:=eW.eq hk q0 p0 h2 h3
 rcases c1 with c1| ⟨p1,q1,ab8,aix⟩
 ·exact ⟨-1,bS e0<|bF aC<|bS e1 (jV (ae c1)),.inl (by omega)⟩
 obtain ⟨r2,e2,c2⟩:=ey.eq k q1 p1 h4
 rcases c2 with c2| ⟨p2,q2,adP⟩
 ·exact ⟨-1,bS e0<|bF aC<|bS e1<|bF aC<|bS e2 (jV (ae c2)),.inl (by omega)⟩
 obtain ⟨r3,e3,c3⟩:=ey.eq k q2 p2 h5
 rcases c3 with c3| ⟨p3,q3,adQ⟩
 ·exact ⟨-1,bS e0<|bF aC<|bS e1<|bF aC<|bS e2<|bF aC<|bS e3 (jV (ae c3)),.inl (by omega)⟩
 exact ⟨r3,bS e0<|bF aC<|bS e1<|bF aC<|bS e2<|bF aC<|bS e3<|bF aC<|rfl,.inr ⟨p3,q3,ab7,adO,ab8,aix,adP,adQ⟩⟩
theorem L4.eq {k:Nat} (hk:cy<=k) {a0:Int} {a1:Int} {a2:Bool} {a3:Bool} {a4:LI} {a5:LI} {a6:Int} {a7:Int} {a8:LI} {a9:Bool} {da:LI} {cS:Int} {a12:Int} {dh:Bool} {fW:Bool} {fX:LI} {fY:LI} {fZ:Int} {f_:Int} {fU:LL} {a20:LI} {a21:LI} {ga:Int} {fV:Int} {a24:Int} {gx:LI} {gH:LL} {left:Int} (hl:left<=1048576) (hl0:0<=left) (h0:a4.length<=maxLen) (h1:a5.length<=maxLen) (h2:a8.length<=maxLen) (h3:da.length<=maxLen) (h4:fX.length<=maxLen) (h5:fY.length<=maxLen) (h6:fU.length<=maxLen) (h7: ∀y∈fU,y.length<=maxLen) (h8:a20.length<=maxLen) (h9:a21.length<=maxLen) (UH:gx.length<=maxLen) (h11:gH.length<=maxLen) (M6: ∀y∈gH,y.length<=maxLen): ∃r,L4.f k a0 a1 a2 a3 a4 a5 a6 a7 a8 a9 da cS a12 dh fW fX fY fZ f_ fU a20 a21 ga fV a24 gx gH left=some r/\(r<0\/(0<=r/\r<=1048576/\(a4.length<1048577)/\(a5.length<1048577)/\(a8.length<1048577)/\(da.length<1048577)/\(fX.length<1048577)/\(fY.length<1048577)/\(fU.length<1048577)/\(∀y∈fU,y.length<1048577)/\(a20.length<1048577)/\(a21.length<1048577)/\(gx.length<1048577)/\(gH.length<1048577)/\(∀y∈gH,y.length<1048577))):=by
 obtain ⟨r0,e0,c0⟩:=Du.eq hk hl hl0 h0 h1
 rcases c0 with c0| ⟨p0,q0,ab7,adO⟩
 ·exact ⟨-1,bS e0 (jV (ae c0)),.inl (by omega)⟩
 obtain ⟨r1,e1,c1⟩:=ey.eq k q0 p0 h2
 rcases c1 with c1| ⟨p1,q1,ab8⟩
 ·exact ⟨-1,bS e0<|bF aC<|bS e1 (jV (ae c1)),.inl (by omega)⟩
 obtain ⟨r2,e2,c2⟩:=ey.eq k q1 p1 h3
 rcases c2 with c2| ⟨p2,q2,adP⟩
 ·exact ⟨-1,bS e0<|bF aC<|bS e1<|bF aC<|bS e2 (jV (ae c2)),.inl (by omega)⟩
 obtain ⟨r3,e3,c3⟩:=NT.eq hk q2 p2 h4 h5 h6 h7 h8 h9
 rcases c3 with c3| ⟨p3,q3,adQ,aiy,aiz,aiA,aiB,aiC⟩
 ·exact ⟨-1,bS e0<|bF aC<|bS e1<|bF aC<|bS e2<|bF aC<|bS e3 (jV (ae c3)),.inl (by omega)⟩
 obtain ⟨r4,e4,c4⟩:=ey.eq k q3 p3 UH
 rcases c4 with c4| ⟨p4,q4,aiD⟩
 ·exact ⟨-1,bS e0<|bF aC<|bS e1<|bF aC<|bS e2<|bF aC<|bS e3<|bF aC<|bS e4 (jV (ae c4)),.inl (by omega)⟩
 obtain ⟨r5,e5,c5⟩:=eW.eq hk q4 p4 h11 M6
 rcases c5 with c5| ⟨p5,q5,aiE,aiF⟩
 ·exact ⟨-1,bS e0<|bF aC<|bS e1<|bF aC<|bS e2<|bF aC<|bS e3<|bF aC<|bS e4<|bF aC<|bS e5 (jV (ae c5)),.inl (by omega)⟩
 exact ⟨r5,bS e0<|bF aC<|bS e1<|bF aC<|bS e2<|bF aC<|bS e3<|bF aC<|bS e4<|bF aC<|bS e5<|bF aC<|rfl,.inr ⟨p5,q5,ab7,adO,ab8,adP,adQ,aiy,aiz,aiA,aiB,aiC,aiD,aiE,aiF⟩⟩
theorem eb.loop {R:Type} {k:Nat} (hk:cy<=k) (v:LI) (e0:LI->Option R) (hv:v.length<1048577): ∀(m i n:Nat),i+m=v.length->m<n->eb.l3 k v e0 n (i:Int) (v.take i++List.replicate m 0)=e0 v:=by
 intro m
 induction m with
 |zero=>
  intro i n hi hn
  obtain ⟨n,rfl⟩: ∃n',n=n' +1:=⟨n-1,by omega⟩
  refine bV rfl ?_
  refine bF aC ?_
  simp[show i=v.length by omega]
 |succ m ih=>
  intro i n hi hn
  obtain ⟨n,rfl⟩: ∃n',n=n' +1:=⟨n-1,by omega⟩
  have tu:i<v.length:=by omega
  refine bV rfl ?_
  refine bT ae ?_
  refine cT (cg tu) ?_
  refine cT (bA ae (ae (by simp;omega))) ?_
  rw[aK,aa,aN _ tu]
  have:=ih (i+1) n (by omega) (by omega)
  rw[<- this,P1 tu]
theorem eb.eq {k:Nat} (hk:cy<=k) {v:LI} (hv:v.length<1048577):eb.f k v=some v:=by
 refine cT (bA ae (ae (by simp[room];omega))) ?_
 have:=eb.loop hk v (fun x=>some x) hv v.length 0 k (by omega) (by simp[cy] at hk;omega)
 simpa using this
theorem Ea.eq {k:Nat} (hk:cy<=k) {a0:Int} {a1:Int} {a2:Bool} {a3:Bool} {a4:LI} {a5:LI} {a6:Int} {a7:Int} (h0:a4.length<1048577) (h1:a5.length<1048577):Ea.f k a0 a1 a2 a3 a4 a5 a6 a7=some (a0,a1,a2,a3,a4,a5,a6,a7):=by
 exact bS (eb.eq hk h0)<|bS (eb.eq hk h1)<|rfl
theorem lT.loop {R:Type} {k:Nat} (hk:cy<=k) (v:LL) (e0:LL->Option R) (hv:v.length<1048577) (zc: ∀y∈v,y.length<1048577): ∀(m i n:Nat),i+m=v.length->m<n->lT.l3 k v e0 n (i:Int) (v.take i++List.replicate m [])=e0 v:=by
 intro m
 induction m with
 |zero=>
  intro i n hi hn
  obtain ⟨n,rfl⟩: ∃n',n=n' +1:=⟨n-1,by omega⟩
  refine bV rfl ?_
  refine bF aC ?_
  simp[show i=v.length by omega]
 |succ m ih=>
  intro i n hi hn
  obtain ⟨n,rfl⟩: ∃n',n=n' +1:=⟨n-1,by omega⟩
  have tu:i<v.length:=by omega
  refine bV rfl ?_
  refine bT ae ?_
  refine cT (cg tu) ?_
  rw[aa,aN _ tu]
  refine bS (eb.eq hk (zc _ (aj tu))) ?_
  refine cT (bA ae (ae (by simp;omega))) ?_
  rw[aK]
  have:=ih (i+1) n (by omega) (by omega)
  rw[<- this,P1 tu]
theorem lT.eq {k:Nat} (hk:cy<=k) {v:LL} (hv:v.length<1048577) (zc: ∀y∈v,y.length<1048577):lT.f k v=some v:=by
 refine cT (bA ae (ae (by simp[room];omega))) ?_
 have:=lT.loop hk v (fun x=>some x) hv zc v.length 0 k (by omega) (by simp[cy] at hk;omega)
 simpa using this
theorem NU.eq {k:Nat} (hk:cy<=k) {a0:Int} {a1:Int} {a2:Bool} {a3:Bool} {a4:LI} {a5:LI} {a6:Int} {a7:Int} {a8:LL} {a9:LI} {da:LI} {cS:Int} {a12:Int} {dh:Int} (h0:a4.length<1048577) (h1:a5.length<1048577) (h2:a8.length<1048577) (h3: ∀y∈a8,y.length<1048577) (h4:a9.length<1048577) (h5:da.length<1048577):NU.f k a0 a1 a2 a3 a4 a5 a6 a7 a8 a9 da cS a12 dh=some (a0,a1,a2,a3,a4,a5,a6,a7,a8,a9,da,cS,a12,dh):=by
 exact bS (Ea.eq hk h0 h1)<|bS (lT.eq hk h2 h3)<|bS (eb.eq hk h4)<|bS (eb.eq hk h5)<|rfl
theorem tH.eq {k:Nat} (hk:cy<=k) {a0:Int} {a1:Int} {a2:Bool} {a3:Bool} {a4:LI} {a5:LI} {a6:Int} {a7:Int} {a8:LI} {a9:Bool} {da:LI} {cS:Int} {a12:Int} {dh:Bool} {fW:Bool} {fX:LI} {fY:LI} {fZ:Int} {f_:Int} {fU:LL} {a20:LI} {a21:LI} {ga:Int} {fV:Int} {a24:Int} {gx:LI} {gH:LL} (h0:a4.length<1048577) (h1:a5.length<1048577) (h2:a8.length<1048577) (h3:da.length<1048577) (h4:fX.length<1048577) (h5:fY.length<1048577) (h6:fU.length<1048577) (h7: ∀y∈fU,y.length<1048577) (h8:a20.length<1048577) (h9:a21.length<1048577) (UH:gx.length<1048577) (h11:gH.length<1048577) (M6: ∀y∈gH,y.length<1048577):tH.f k a0 a1 a2 a3 a4 a5 a6 a7 a8 a9 da cS a12 dh fW fX fY fZ f_ fU a20 a21 ga fV a24 gx gH=some (a0,a1,a2,a3,a4,a5,a6,a7,a8,a9,da,cS,a12,dh,fW,fX,fY,fZ,f_,fU,a20,a21,ga,fV,a24,gx,gH):=by
 exact bS (Ea.eq hk h0 h1)<|bS (eb.eq hk h2)<|bS (eb.eq hk h3)<|bS (NU.eq hk h4 h5 h6 h7 h8 h9)<|bS (eb.eq hk UH)<|bS (lT.eq hk h11 M6)<|rfl
theorem eo.loop {R:Type} {k:Nat} (hk:cy<=k) (v:LI) (e0 e1:Option R) (hv:v.length<1048577): ∀(m i n:Nat),i+m=v.length->m<n->eo.l4 k v v e0 e1 n (i:Int)=e1:=by
 intro m
 induction m with
 |zero=>
  intro i n hi hn
  obtain ⟨n,rfl⟩: ∃n',n=n' +1:=⟨n-1,by omega⟩
  refine kz rfl ?_
  exact br aC
 |succ m ih=>
  intro i n hi hn
  obtain ⟨n,rfl⟩: ∃n',n=n' +1:=⟨n-1,by omega⟩
  have tu:i<v.length:=by omega
  refine kz rfl ?_
  refine bT ae ?_
  refine cT (cg tu) ?_
  refine cT (cg tu) ?_
  refine bF (by simp) ?_
  rw[aK]
  exact ih (i+1) n (by omega) (by omega)
theorem eo.eq {k:Nat} (hk:cy<=k) {v:LI} (hv:v.length<1048577):eo.f k v v=some true:=by
 refine bF (by simp) ?_
 exact eo.loop hk v _ _ hv v.length 0 k (by omega) (by simp[cy] at hk;omega)
theorem FC.eq {k:Nat} (hk:cy<=k) {a0:Int} {a1:Int} {a2:Bool} {a3:Bool} {a4:LI} {a5:LI} {a6:Int} {a7:Int} (h0:a4.length<1048577) (h1:a5.length<1048577):FC.f k a0 a1 a2 a3 a4 a5 a6 a7 a0 a1 a2 a3 a4 a5 a6 a7=some true:=by
 exact bF (by simp)<|bF (by simp)<|bF (by simp)<|bF (by simp)<|bS (eo.eq hk h0)<|bF rfl<|bS (eo.eq hk h1)<|bF rfl<|bF (by simp)<|bF (by simp)<|rfl
theorem qF.loop {R:Type} {k:Nat} (hk:cy<=k) (v:LL) (e0 e1:Option R) (hv:v.length<1048577) (zc: ∀y∈v,y.length<1048577): ∀(m i n:Nat),i+m=v.length->m<n->qF.l4 k v v e0 e1 n (i:Int)=e1:=by
 intro m
 induction m with
 |zero=>
  intro i n hi hn
  obtain ⟨n,rfl⟩: ∃n',n=n' +1:=⟨n-1,by omega⟩
  refine kz rfl ?_
  exact br aC
 |succ m ih=>
  intro i n hi hn
  obtain ⟨n,rfl⟩: ∃n',n=n' +1:=⟨n-1,by omega⟩
  have tu:i<v.length:=by omega
  refine kz rfl ?_
  refine bT ae ?_
  refine cT (cg tu) ?_
  refine cT (cg tu) ?_
  rw[aa,aN _ tu]
  refine bS (eo.eq hk (zc _ (aj tu))) ?_
  refine bF rfl ?_
  rw[aK]
  exact ih (i+1) n (by omega) (by omega)
theorem qF.eq {k:Nat} (hk:cy<=k) {v:LL} (hv:v.length<1048577) (zc: ∀y∈v,y.length<1048577):qF.f k v v=some true:=by
 refine bF (by simp) ?_
 exact qF.loop hk v _ _ hv zc v.length 0 k (by omega) (by simp[cy] at hk;omega)
theorem NV.eq {k:Nat} (hk:cy<=k) {a0:Int} {a1:Int} {a2:Bool} {a3:Bool} {a4:LI} {a5:LI} {a6:Int} {a7:Int} {a8:LL} {a9:LI} {da:LI} {cS:Int} {a12:Int} {dh:Int} (h0:a4.length<1048577) (h1:a5.length<1048577) (h2:a8.length<1048577) (h3: ∀y∈a8,y.length<1048577) (h4:a9.length<1048577) (h5:da.length<1048577):NV.f k a0 a1 a2 a3 a4 a5 a6 a7 a8 a9 da cS a12 dh a0 a1 a2 a3 a4 a5 a6 a7 a8 a9 da cS a12 dh=some true:=by
 exact bS (FC.eq hk h0 h1)<|bF rfl<|bS (qF.eq hk h2 h3)<|bF rfl<|bS (eo.eq hk h4)<|bF rfl<|bS (eo.eq hk h5)<|bF rfl<|bF (by simp)<|bF (by simp)<|bF (by simp)<|rfl
theorem xA.eq {k:Nat} (hk:cy<=k) {a0:Int} {a1:Int} {a2:Bool} {a3:Bool} {a4:LI} {a5:LI} {a6:Int} {a7:Int} {a8:LI} {a9:Bool} {da:LI} {cS:Int} {a12:Int} {dh:Bool} {fW:Bool} {fX:LI} {fY:LI} {fZ:Int} {f_:Int} {fU:LL} {a20:LI} {a21:LI} {ga:Int} {fV:Int} {a24:Int} {gx:LI} {gH:LL} (h0:a4.length<1048577) (h1:a5.length<1048577) (h2:a8.length<1048577) (h3:da.length<1048577) (h4:fX.length<1048577) (h5:fY.length<1048577) (h6:fU.length<1048577) (h7: ∀y∈fU,y.length<1048577) (h8:a20.length<1048577) (h9:a21.length<1048577) (UH:gx.length<1048577) (h11:gH.length<1048577) (M6: ∀y∈gH,y.length<1048577):xA.f k a0 a1 a2 a3 a4 a5 a6 a7 a8 a9 da cS a12 dh fW fX fY fZ f_ fU a20 a21 ga fV a24 gx gH a0 a1 a2 a3 a4 a5 a6 a7 a8 a9 da cS a12 dh fW fX fY fZ f_ fU a20 a21 ga fV a24 gx gH=some true:=by
 exact bS (FC.eq hk h0 h1)<|bF rfl<|bS (eo.eq hk h2)<|bF rfl<|bF (by simp)<|bS (eo.eq hk h3)<|bF rfl<|bS (NV.eq hk h4 h5 h6 h7 h8 h9)<|bF rfl<|bS (eo.eq hk UH)<|bF rfl<|bS (qF.eq hk h11 M6)<|bF rfl<|rfl
theorem dF.loop {R:Type} {k:Nat} (N:Nat) (m:Int) (e0:Int->LI->Option R) (hN:N<1048577) (h0:0<=m) (hm:m<=2305843009213693952): ∀(r i n:Nat) (x:LI),i+r=N->r<n->x.length=N->(∀j,j<i->x[j]? =some (m+(j:Int)))-> ∃y,dF.l2 k e0 n (m+(i:Int)) (i:Int) x=e0 (m+(N:Int)) y/\y.length=N/\ ∀j,j<N->y[j]? =some (m+(j:Int)):=by
 intro r
 induction r with
 |zero=>
  intro i n x hi hn hx hj
  obtain ⟨n,rfl⟩: ∃n',n=n' +1:=⟨n-1,by omega⟩
  obtain rfl:i=N:=by omega
  exact ⟨x,xr rfl (br aC),hx,hj⟩
 |succ r ih=>
  intro i n x hi hn hx hj
  obtain ⟨n,rfl⟩: ∃n',n=n' +1:=⟨n-1,by omega⟩
  have tu:i<x.length:=by omega
  obtain ⟨y,g1,g2,g3⟩:=ih (i+1) n (x.set i (m+(i:Int))) (by omega) (by omega) (by simpa using hx) (fun j M3=>by
   rw[List.getElem?_set]
   by_cases e:i=j
   ·subst e;simp[tu]
   ·rw[aD e];exact hj j (by omega))
  refine ⟨y,?_,g2,g3⟩
  refine xr rfl (bT ae (cT (cg tu) ?_))
  rw[aa,aK,wrap_i64,show m+(i:Int)+1=m+((i+1:Nat):Int) by omega]
  exact g1
theorem dF.eq {k:Nat} (hk:cy<=k) (v:LI) (m:Int) (hv:v.length<1048577) (h0:0<=m) (hm:m<=2305843009213693952): ∃m' w,dF.f k v m=some (m',w)/\mkI w m m':=by
 obtain ⟨y,g1,g2,g3⟩:=dF.loop (k:=k) v.length m (fun x1 x2=>some (x1,x2)) hv h0 hm v.length 0 k v (by omega) (cd hk hv) rfl (fun j hj=>by omega)
 refine ⟨m+(v.length:Int),y,?_,⟨by omega,by omega,fun j hj=>g3 j (by omega)⟩⟩
 rw[show m+((0:Nat):Int)=m by simp] at g1
 exact g1
theorem xB.eq {k:Nat} (hk:cy<=k) (a0:Int) (a1:Int) (a2:Bool) (a3:Bool) (a4:LI) (a5:LI) (a6:Int) (a7:Int) (m:Int) (h0:a4.length<1048577) (h1:a5.length<1048577) (hm0:0<=m) (hm:m<=1152921504606846976): ∃m1 m2 a4' a5',xB.f k a0 a1 a2 a3 a4 a5 a6 a7 m=some (m2,a0,a1,a2,a3,a4',a5',a6,a7)/\mkI a4' m m1/\mkI a5' m1 m2:=by
 obtain ⟨m1,a4',e0,q0⟩:=dF.eq hk a4 m h0 (by omega) (by omega)
 have b0:=iL q0
 obtain ⟨m2,a5',e1,q1⟩:=dF.eq hk a5 m1 h1 (by omega) (by omega)
 have b1:=iL q1
 exact ⟨m1,m2,a4',a5',bS e0<|bS e1<|rfl,q0,q1⟩
theorem e_.loop {R:Type} {k:Nat} (hk:cy<=k) (N:Nat) (e0:Int->LL->Option R) (hN:N<1048577): ∀(r i n:Nat) (m:Int) (x:LL),i+r=N->r<n->x.length=N->(∀j (h:j<x.length),i<=j->x[j].length<1048577)->0<=m->m<=1154047404513689600+(i:Int)*1048576-> ∃m' y,e_.l2 k e0 n m (i:Int) x=e0 m' y/\y.length=N/\y.take i=x.take i/\abO (y.drop i) m m' /\m<=m' /\m' <=m+(r:Int)*1048576:=by
 intro r
 induction r with
 |zero=>
  intro i n m x hi hn hx hs h0 hm
  obtain ⟨n,rfl⟩: ∃n',n=n' +1:=⟨n-1,by omega⟩
  exact ⟨m,x,xr rfl (br aC),hx,rfl,by rw[aZ (by omega)];exact rfl,by omega,by omega⟩
 |succ r ih=>
  intro i n m x hi hn hx hs h0 hm
  obtain ⟨n,rfl⟩: ∃n',n=n' +1:=⟨n-1,by omega⟩
  have tu:i<x.length:=by omega
  obtain ⟨q,w,e,hq⟩:=dF.eq hk x[i] m (hs i tu (ai _)) h0 (by omega)
  have hb:=iL hq
  obtain ⟨m',y,g1,g2,g3,g4,g5,g6⟩:=ih (i+1) n q (x.set i w) (by omega) (by omega) (by simpa using hx) (fun j hj ZY=>by
   rw[List.getElem_set_ne (by omega)]
   exact hs j (by simpa using hj) (by omega)) (by omega) (by omega)
  obtain ⟨k1,k2⟩:=abA (by omega) tu g3
  refine ⟨m',y,?_,g2,k1,by rw[k2];exact ⟨q,hq,g4⟩,by omega,by omega⟩
  refine xr rfl (bT ae (cT (cg tu) ?_))
  rw[aa,aN _ tu]
  refine cT (adW tu) (bS e ?_)
  rw[aK]
  exact g1
theorem e_.eq {k:Nat} (hk:cy<=k) (v:LL) (m:Int) (hv:v.length<1048577) (zc: ∀y∈v,y.length<1048577) (h0:0<=m) (hm:m<=1154047404513689600): ∃m' w,e_.f k v m=some (m',w)/\abz w m m':=by
 obtain ⟨m',y,g1,g2,g3,g4,g5,g6⟩:=e_.loop hk v.length (fun x2 x3=>some (x2,x3)) hv v.length 0 k m v (by omega) (cd hk hv) rfl (fun j hj _=>zc _ (aj hj)) h0 (by omega)
 exact ⟨m',y,g1,by omega,g5,by omega,by simpa using g4⟩
theorem JX.eq {k:Nat} (hk:cy<=k) (a0:Int) (a1:Int) (a2:Bool) (a3:Bool) (a4:LI) (a5:LI) (a6:Int) (a7:Int) (a8:LL) (a9:LI) (da:LI) (cS:Int) (a12:Int) (dh:Int) (m:Int) (h0:a4.length<1048577) (h1:a5.length<1048577) (h2:a8.length<1048577) (h3: ∀y∈a8,y.length<1048577) (h4:a9.length<1048577) (h5:da.length<1048577) (hm0:0<=m) (hm:m<=1151795604700004352): ∃m1 m2 m3 m4 m5 a4' a5' a8' a9' abG,JX.f k a0 a1 a2 a3 a4 a5 a6 a7 a8 a9 da cS a12 dh m=some (m5,a0,a1,a2,a3,a4',a5',a6,a7,a8',a9',abG,cS,a12,dh)/\mkI a4' m m1/\mkI a5' m1 m2/\abz a8' m2 m3/\mkI a9' m3 m4/\mkI abG m4 m5:=by
 obtain ⟨m1,m2,a4',a5',e0,q0,q1⟩:=xB.eq hk a0 a1 a2 a3 a4 a5 a6 a7 m h0 h1 (by omega) (by omega)
 have b0:=iL q0
 have b1:=iL q1
 obtain ⟨m3,a8',e2,q2⟩:=e_.eq hk a8 m2 h2 h3 (by omega) (by omega)
 have b2:=aam q2
 obtain ⟨m4,a9',e3,q3⟩:=dF.eq hk a9 m3 h4 (by omega) (by omega)
 have b3:=iL q3
 obtain ⟨m5,abG,e4,q4⟩:=dF.eq hk da m4 h5 (by omega) (by omega)
 have b4:=iL q4
 exact ⟨m1,m2,m3,m4,m5,a4',a5',a8',a9',abG,bS e0<|bS e2<|bS e3<|bS e4<|rfl,q0,q1,q2,q3,q4⟩
theorem Bl.eq {k:Nat} (hk:cy<=k) (a0:Int) (a1:Int) (a2:Bool) (a3:Bool) (a4:LI) (a5:LI) (a6:Int) (a7:Int) (a8:LI) (a9:Bool) (da:LI) (cS:Int) (a12:Int) (dh:Bool) (fW:Bool) (fX:LI) (fY:LI) (fZ:Int) (f_:Int) (fU:LL) (a20:LI) (a21:LI) (ga:Int) (fV:Int) (a24:Int) (gx:LI) (gH:LL) (m:Int) (h0:a4.length<1048577) (h1:a5.length<1048577) (h2:a8.length<1048577) (h3:da.length<1048577) (h4:fX.length<1048577) (h5:fY.length<1048577) (h6:fU.length<1048577) (h7: ∀y∈fU,y.length<1048577) (h8:a20.length<1048577) (h9:a21.length<1048577) (UH:gx.length<1048577) (h11:gH.length<1048577) (M6: ∀y∈gH,y.length<1048577) (hm0:0<=m) (hm:m<=1150669704793161728): ∃m1 m2 m3 m4 m5 m6 m7 m8 m9 m10 m11 a4' a5' a8' abG ac5 ac7 ac8 ac9 ade adf adg,Bl.f k a0 a1 a2 a3 a4 a5 a6 a7 a8 a9 da cS a12 dh fW fX fY fZ f_ fU a20 a21 ga fV a24 gx gH m=some (m11,a0,a1,a2,a3,a4',a5',a6,a7,a8',a9,abG,cS,a12,dh,fW,ac5,ac7,fZ,f_,ac8,ac9,ade,ga,fV,a24,adf,adg)/\mkI a4' m m1/\mkI a5' m1 m2/\mkI a8' m2 m3/\mkI abG m3 m4/\mkI ac5 m4 m5/\mkI ac7 m5 m6/\abz ac8 m6 m7/\mkI ac9 m7 m8/\mkI ade m8 m9/\mkI adf m9 m10/\abz adg m10 m11:=by
 obtain ⟨m1,m2,a4',a5',e0,q0,q1⟩:=xB.eq hk a0 a1 a2 a3 a4 a5 a6 a7 m h0 h1 (by omega) (by omega)
 have b0:=iL q0
 have b1:=iL q1
 obtain ⟨m3,a8',e2,q2⟩:=dF.eq hk a8 m2 h2 (by omega) (by omega)
 have b2:=iL q2
 obtain ⟨m4,abG,e3,q3⟩:=dF.eq hk da m3 h3 (by omega) (by omega)
 have b3:=iL q3
 obtain ⟨m5,m6,m7,m8,m9,ac5,ac7,ac8,ac9,ade,e4,q4,q5,q6,q7,q8⟩:=JX.eq hk cS a12 dh fW fX fY fZ f_ fU a20 a21 ga fV a24 m4 h4 h5 h6 h7 h8 h9 (by omega) (by omega)
 have b4:=iL q4
 have b5:=iL q5
 have b6:=aam q6
 have b7:=iL q7
 have b8:=iL q8
 obtain ⟨m10,adf,e9,q9⟩:=dF.eq hk gx m9 UH (by omega) (by omega)
 have b9:=iL q9
 obtain ⟨m11,adg,e10,q10⟩:=e_.eq hk gH m10 h11 M6 (by omega) (by omega)
 have b10:=aam q10
 exact ⟨m1,m2,m3,m4,m5,m6,m7,m8,m9,m10,m11,a4',a5',a8',abG,ac5,ac7,ac8,ac9,ade,adf,adg,bS e0<|bS e2<|bS e3<|bS e4<|bS e9<|bS e10<|rfl,q0,q1,q2,q3,q4,q5,q6,q7,q8,q9,q10⟩
theorem dW.eq {k:Nat} (hk:cy<=k) (w:LI) (m m':Int) (hw:mkI w m m') (h0:0<=m) (hm:m<=2305843009213693952):dW.f k w m=some m':=by
 obtain ⟨hl,rfl,hj⟩:=hw
 have key: ∀(r i n:Nat),i+r=w.length->r<n->dW.l2 k w (fun x1=>some (-1:Int)) (fun x2=>some x2) n (m+(i:Int)) (i:Int)=some (m+(w.length:Int)):=by
  intro r
  induction r with
  |zero=>
   intro i n hi hn
   obtain ⟨n,rfl⟩: ∃n',n=n' +1:=⟨n-1,by omega⟩
   obtain rfl:i=w.length:=by omega
   exact bV rfl (br aC)
  |succ r ih=>
   intro i n hi hn
   obtain ⟨n,rfl⟩: ∃n',n=n' +1:=⟨n-1,by omega⟩
   have tu:i<w.length:=by omega
   refine bV rfl (bT ae (cT (cg tu) ?_))
   rw[aa,aL,hj i tu]
   refine bF (by simp) ?_
   rw[aK,wrap_i64,show m+(i:Int)+1=m+((i+1:Nat):Int) by omega]
   exact ih (i+1) n (by omega) (by omega)
 have:=key w.length 0 k (by omega) (cd hk hl)
 rw[show m+((0:Nat):Int)=m by simp] at this
 exact this
theorem zq.eq {k:Nat} (hk:cy<=k) (a0:Int) (a1:Int) (a2:Bool) (a3:Bool) (a4:LI) (a5:LI) (a6:Int) (a7:Int) (m m1 m2:Int) (q0:mkI a4 m m1) (q1:mkI a5 m1 m2) (hm0:0<=m) (hm:m<=1152921504606846976):zq.f k a0 a1 a2 a3 a4 a5 a6 a7 m=some m2:=by
 have b0:=iL q0
 have b1:=iL q1
 exact bS (dW.eq hk a4 m m1 q0 (by omega) (by omega))<|bF aC<|bS (dW.eq hk a5 m1 m2 q1 (by omega) (by omega))<|bF aC<|rfl
theorem lr.eq {k:Nat} (hk:cy<=k) (w:LL) (m m':Int) (hw:abz w m m') (h0:0<=m) (hm:m<=1154047404513689600):lr.f k w m=some m':=by
 obtain ⟨hl,_,_,hj⟩:=hw
 have key: ∀(r i n:Nat) (m:Int),i+r=w.length->r<n->abO (w.drop i) m m'->0<=m->m<=1154047404513689600+(i:Int)*1048576->lr.l2 k w (fun x1=>some (-1:Int)) (fun x2=>some x2) n m (i:Int)=some m':=by
  intro r
  induction r with
  |zero=>
   intro i n m hi hn hj h0 hm
   obtain ⟨n,rfl⟩: ∃n',n=n' +1:=⟨n-1,by omega⟩
   rw[aZ (by omega)] at hj
   have hj:m' =m:=hj
   subst hj
   exact bV rfl (br aC)
  |succ r ih=>
   intro i n m hi hn hj h0 hm
   obtain ⟨n,rfl⟩: ∃n',n=n' +1:=⟨n-1,by omega⟩
   have tu:i<w.length:=by omega
   rw[drop_cons tu] at hj
   obtain ⟨q,hq,hj⟩:=hj
   have hb:=iL hq
   refine bV rfl (bT ae (cT (cg tu) ?_))
   rw[aa,aN _ tu]
   refine bS (dW.eq hk _ _ _ hq h0 (by omega)) (bF aC ?_)
   rw[aK]
   exact ih (i+1) n q (by omega) (by omega) hj (by omega) (by omega)
 exact key w.length 0 k m (by omega) (cd hk hl) (by simpa using hj) h0 (by omega)
theorem L3.eq {k:Nat} (hk:cy<=k) (a0:Int) (a1:Int) (a2:Bool) (a3:Bool) (a4:LI) (a5:LI) (a6:Int) (a7:Int) (a8:LL) (a9:LI) (da:LI) (cS:Int) (a12:Int) (dh:Int) (m m1 m2 m3 m4 m5:Int) (q0:mkI a4 m m1) (q1:mkI a5 m1 m2) (q2:abz a8 m2 m3) (q3:mkI a9 m3 m4) (q4:mkI da m4 m5) (hm0:0<=m) (hm:m<=1151795604700004352):L3.f k a0 a1 a2 a3 a4 a5 a6 a7 a8 a9 da cS a12 dh m=some m5:=by
 have b0:=iL q0
 have b1:=iL q1
 have b2:=aam q2
 have b3:=iL q3
 have b4:=iL q4
 exact bS (zq.eq hk a0 a1 a2 a3 a4 a5 a6 a7 m m1 m2 q0 q1 (by omega) (by omega))<|bF aC<|bS (lr.eq hk a8 m2 m3 q2 (by omega) (by omega))<|bF aC<|bS (dW.eq hk a9 m3 m4 q3 (by omega) (by omega))<|bF aC<|bS (dW.eq hk da m4 m5 q4 (by omega) (by omega))<|bF aC<|rfl
theorem Ds.eq {k:Nat} (hk:cy<=k) (a0:Int) (a1:Int) (a2:Bool) (a3:Bool) (a4:LI) (a5:LI) (a6:Int) (a7:Int) (a8:LI) (a9:Bool) (da:LI) (cS:Int) (a12:Int) (dh:Bool) (fW:Bool) (fX:LI) (fY:LI) (fZ:Int) (f_:Int) (fU:LL) (a20:LI) (a21:LI) (ga:Int) (fV:Int) (a24:Int) (gx:LI) (gH:LL) (m m1 m2 m3 m4 m5 m6 m7 m8 m9 m10 m11:Int) (q0:mkI a4 m m1) (q1:mkI a5 m1 m2) (q2:mkI a8 m2 m3) (q3:mkI da m3 m4) (q4:mkI fX m4 m5) (q5:mkI fY m5 m6) (q6:abz fU m6 m7) (q7:mkI a20 m7 m8) (q8:mkI a21 m8 m9) (q9:mkI gx m9 m10) (q10:abz gH m10 m11) (hm0:0<=m) (hm:m<=1150669704793161728):Ds.f k a0 a1 a2 a3 a4 a5 a6 a7 a8 a9 da cS a12 dh fW fX fY fZ f_ fU a20 a21 ga fV a24 gx gH m=some m11:=by
 have b0:=iL q0
 have b1:=iL q1
 have b2:=iL q2
 have b3:=iL q3
 have b4:=iL q4
 have b5:=iL q5
 have b6:=aam q6
 have b7:=iL q7
 have b8:=iL q8
 have b9:=iL q9
 have b10:=aam q10
 exact bS (zq.eq hk a0 a1 a2 a3 a4 a5 a6 a7 m m1 m2 q0 q1 (by omega) (by omega))<|bF aC<|bS (dW.eq hk a8 m2 m3 q2 (by omega) (by omega))<|bF aC<|bS (dW.eq hk da m3 m4 q3 (by omega) (by omega))<|bF aC<|bS (L3.eq hk cS a12 dh fW fX fY fZ f_ fU a20 a21 ga fV a24 m4 m5 m6 m7 m8 m9 q4 q5 q6 q7 q8 (by omega) (by omega))<|bF aC<|bS (dW.eq hk gx m9 m10 q9 (by omega) (by omega))<|bF aC<|bS (lr.eq hk gH m10 m11 q10 (by omega) (by omega))<|bF aC<|rfl
