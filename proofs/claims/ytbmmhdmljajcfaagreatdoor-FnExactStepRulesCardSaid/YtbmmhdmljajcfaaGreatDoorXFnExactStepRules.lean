/- Sizes, copies, comparisons in plain Lean. Conditions: enough rounds, what the statement's guard lets pass. Printed by a program. -/
import Derived.Test.YtbmmhdmljajcfaaGreatDoorKit
import Derived.Test.YtbmmhdmljajcfaaGreatDoorFFnExactStepRules
set_option linter.unusedVariables false
set_option linter.unusedSimpArgs false
namespace Go.Proofs.YtbmmhdmljajcfaaGreatDoor
open Go Go.Proofs.YtbmmhdmljajcfaaGreatDoor.V
theorem laws_szIntS.eq (k:Nat) {v:List Int} {left:Int} (hl:left<=1048576) (hl0:0<=left) (hv:v.length<=maxLen): ∃r,laws_szIntS.f k v left=some r/\(r<0\/(0<=r/\r<=1048576/\v.length<1048577)):=by
 have hv:v.length<=9223372036854775807:=hv
 unfold laws_szIntS.f
 rw[wrap_i64 (by omega) (by omega)]
 by_cases h:left-(v.length:Int)<0
 ·exact ⟨-1,bif_t (dec_t h),.inl (by omega)⟩
 ·exact ⟨_,bif_f (dec_f h),.inr ⟨by omega,by omega,by omega⟩⟩
theorem laws_szRules.eq {k:Nat} (hk:BIG<=k) {a0:Int} {a1:Int} {a2:Bool} {a3:Bool} {a4:List Int} {a5:List Int} {a6:Int} {a7:Int} {left:Int} (hl:left<=1048576) (hl0:0<=left) (h0:a4.length<=maxLen) (h1:a5.length<=maxLen): ∃r,laws_szRules.f k a0 a1 a2 a3 a4 a5 a6 a7 left=some r/\(r<0\/(0<=r/\r<=1048576/\(a4.length<1048577)/\(a5.length<1048577))):=by
 obtain ⟨r0,e0,c0⟩:=laws_szIntS.eq k hl hl0 h0
 rcases c0 with c0| ⟨p0,q0,s0_0⟩
 ·exact ⟨-1,(bind_s e0).trans (bif_t (dec_t c0)),.inl (by omega)⟩
 obtain ⟨r1,e1,c1⟩:=laws_szIntS.eq k q0 p0 h1
 rcases c1 with c1| ⟨p1,q1,s1_0⟩
 ·exact ⟨-1,(bind_s e0).trans<|(bif_f (dec_f (by omega))).trans<|(bind_s e1).trans (bif_t (dec_t c1)),.inl (by omega)⟩
 exact ⟨r1,(bind_s e0).trans<|(bif_f (dec_f (by omega))).trans<|(bind_s e1).trans<|(bif_f (dec_f (by omega))).trans<|rfl,.inr ⟨p1,q1,s0_0,s1_0⟩⟩
theorem laws_szIntSS.loop {k:Nat} (hk:BIG<=k) (v:List (List Int)) {R:Type} (e0 e1:Int->Option R) (hv:v.length<1048577) (hv2: ∀y∈v,y.length<=maxLen): ∀(m i n:Nat) (left:Int),i+m=v.length->m<n->0<=left->left<=1048576-> ∃r,(laws_szIntSS.l5 k v e0 e1 n left (i:Int)=e0 r/\r<0)\/(laws_szIntSS.l5 k v e0 e1 n left (i:Int)=e1 r/\0<=r/\r<=1048576/\ ∀y∈v.drop i,y.length<1048577):=by
 intro m
 induction m with
 |zero=>
  intro i n left hi hn h0 h1
  obtain ⟨n,rfl⟩: ∃n',n=n' +1:=⟨n-1,by omega⟩
  exact ⟨left,.inr ⟨(laws_szIntSS.l5_succ ..).trans (bif_f (dec_f (by omega))),h0,h1,by rw[List.drop_eq_nil_of_le (by omega)];simp⟩⟩
 |succ m ih=>
  intro i n left hi hn h0 h1
  obtain ⟨n,rfl⟩: ∃n',n=n' +1:=⟨n-1,by omega⟩
  have hil:i<v.length:=by omega
  have hm:=hv2 _ (List.getElem_mem hil)
  obtain ⟨r,hr,hc⟩:=laws_szIntS.eq k (v:=v[i]) h1 h0 hm
  have step:laws_szIntSS.l5 k v e0 e1 (n+1) left (i:Int)=(bif decide (r<0) then e0 r else laws_szIntSS.l5 k v e0 e1 n r (IntKind.wrap .i64 ((i:Int)+1))):=by
   refine (laws_szIntSS.l5_succ ..).trans ?_
   refine (bif_t (dec_t (by omega))).trans ?_
   refine (chk_t (in_t hil)).trans ?_
   rw[Int.toNat_natCast,getD_lt _ hil]
   exact bind_s hr
  rcases hc with hc| ⟨hc,h2,hs⟩
  ·exact ⟨r,.inl ⟨step.trans (bif_t (dec_t hc)),hc⟩⟩
  ·rw[bif_f (dec_f (by omega)),wrap_up (by omega)] at step
   obtain ⟨r',hh⟩:=ih (i+1) n r (by omega) (by omega) hc h2
   refine ⟨r',?_⟩
   rw[step,drop_cons hil]
   rcases hh with hh| ⟨g1,g2,g3,g4⟩
   ·exact .inl hh
   ·refine .inr ⟨g1,g2,g3,fun y hy=> ?_⟩
    rcases List.mem_cons.1 hy with rfl|hy
    ·exact hs
    ·exact g4 y hy
theorem laws_szIntSS.eq {k:Nat} (hk:BIG<=k) {v:List (List Int)} {left:Int} (hl:left<=1048576) (hl0:0<=left) (hv:v.length<=maxLen) (hv2: ∀y∈v,y.length<=maxLen): ∃r,laws_szIntSS.f k v left=some r/\(r<0\/(0<=r/\r<=1048576/\v.length<1048577/\ ∀y∈v,y.length<1048577)):=by
 have hv:v.length<=9223372036854775807:=hv
 unfold laws_szIntSS.f
 rw[wrap_i64 (by omega) (by omega)]
 by_cases h:left-(v.length:Int)<0
 ·exact ⟨-1,bif_t (dec_t h),.inl (by omega)⟩
 ·rw[bif_f (dec_f h)]
  obtain ⟨r,hr⟩:=laws_szIntSS.loop hk v (fun x2=>some (-1:Int)) (fun x3=>some x3) (by omega) hv2 v.length 0 k (left-(v.length:Int)) (by omega) (by simp[BIG] at hk;omega) (by omega) (by omega)
  rcases hr with ⟨g1,g2⟩| ⟨g1,g2,g3,g4⟩
  ·exact ⟨-1,g1,.inl (by omega)⟩
  ·refine ⟨r,g1,.inr ⟨g2,g3,by omega,?_⟩⟩
   rw[List.drop_zero] at g4;exact g4
theorem laws_szGame.eq {k:Nat} (hk:BIG<=k) {a0:Int} {a1:Int} {a2:Bool} {a3:Bool} {a4:List Int} {a5:List Int} {a6:Int} {a7:Int} {a8:List (List Int)} {a9:List Int} {a10:List Int} {a11:Int} {a12:Int} {a13:Int} {left:Int} (hl:left<=1048576) (hl0:0<=left) (h0:a4.length<=maxLen) (h1:a5.length<=maxLen) (h2:a8.length<=maxLen) (h3: ∀y∈a8,y.length<=maxLen) (h4:a9.length<=maxLen) (h5:a10.length<=maxLen): ∃r,laws_szGame.f k a0 a1 a2 a3 a4 a5 a6 a7 a8 a9 a10 a11 a12 a13 left=some r/\(r<0\/(0<=r/\r<=1048576/\(a4.length<1048577)/\(a5.length<1048577)/\(a8.length<1048577)/\(∀y∈a8,y.length<1048577)/\(a9.length<1048577)/\(a10.length<1048577))):=by
 obtain ⟨r0,e0,c0⟩:=laws_szRules.eq hk hl hl0 h0 h1
 rcases c0 with c0| ⟨p0,q0,s0_0,s0_1⟩
 ·exact ⟨-1,(bind_s e0).trans (bif_t (dec_t c0)),.inl (by omega)⟩
 obtain ⟨r1,e1,c1⟩:=laws_szIntSS.eq hk q0 p0 h2 h3
 rcases c1 with c1| ⟨p1,q1,s1_0,s1_1⟩
 ·exact ⟨-1,(bind_s e0).trans<|(bif_f (dec_f (by omega))).trans<|(bind_s e1).trans (bif_t (dec_t c1)),.inl (by omega)⟩
 obtain ⟨r2,e2,c2⟩:=laws_szIntS.eq k q1 p1 h4
 rcases c2 with c2| ⟨p2,q2,s2_0⟩
 ·exact ⟨-1,(bind_s e0).trans<|(bif_f (dec_f (by omega))).trans<|(bind_s e1).trans<|(bif_f (dec_f (by omega))).trans<|(bind_s e2).trans (bif_t (dec_t c2)),.inl (by omega)⟩
 obtain ⟨r3,e3,c3⟩:=laws_szIntS.eq k q2 p2 h5
 rcases c3 with c3| ⟨p3,q3,s3_0⟩
 ·exact ⟨-1,(bind_s e0).trans<|(bif_f (dec_f (by omega))).trans<|(bind_s e1).trans<|(bif_f (dec_f (by omega))).trans<|(bind_s e2).trans<|(bif_f (dec_f (by omega))).trans<|(bind_s e3).trans (bif_t (dec_t c3)),.inl (by omega)⟩
 exact ⟨r3,(bind_s e0).trans<|(bif_f (dec_f (by omega))).trans<|(bind_s e1).trans<|(bif_f (dec_f (by omega))).trans<|(bind_s e2).trans<|(bif_f (dec_f (by omega))).trans<|(bind_s e3).trans<|(bif_f (dec_f (by omega))).trans<|rfl,.inr ⟨p3,q3,s0_0,s0_1,s1_0,s1_1,s2_0,s3_0⟩⟩
theorem laws_szTable.eq {k:Nat} (hk:BIG<=k) {a0:Int} {a1:Int} {a2:Bool} {a3:Bool} {a4:List Int} {a5:List Int} {a6:Int} {a7:Int} {a8:List Int} {a9:Bool} {a10:List Int} {a11:Int} {a12:Int} {a13:Bool} {a14:Bool} {a15:List Int} {a16:List Int} {a17:Int} {a18:Int} {a19:List (List Int)} {a20:List Int} {a21:List Int} {a22:Int} {a23:Int} {a24:Int} {a25:List Int} {a26:List (List Int)} {left:Int} (hl:left<=1048576) (hl0:0<=left) (h0:a4.length<=maxLen) (h1:a5.length<=maxLen) (h2:a8.length<=maxLen) (h3:a10.length<=maxLen) (h4:a15.length<=maxLen) (h5:a16.length<=maxLen) (h6:a19.length<=maxLen) (h7: ∀y∈a19,y.length<=maxLen) (h8:a20.length<=maxLen) (h9:a21.length<=maxLen) (h10:a25.length<=maxLen) (h11:a26.length<=maxLen) (h12: ∀y∈a26,y.length<=maxLen): ∃r,laws_szTable.f k a0 a1 a2 a3 a4 a5 a6 a7 a8 a9 a10 a11 a12 a13 a14 a15 a16 a17 a18 a19 a20 a21 a22 a23 a24 a25 a26 left=some r/\(r<0\/(0<=r/\r<=1048576/\(a4.length<1048577)/\(a5.length<1048577)/\(a8.length<1048577)/\(a10.length<1048577)/\(a15.length<1048577)/\(a16.length<1048577)/\(a19.length<1048577)/\(∀y∈a19,y.length<1048577)/\(a20.length<1048577)/\(a21.length<1048577)/\(a25.length<1048577)/\(a26.length<1048577)/\(∀y∈a26,y.length<1048577))):=by
 obtain ⟨r0,e0,c0⟩:=laws_szRules.eq hk hl hl0 h0 h1
 rcases c0 with c0| ⟨p0,q0,s0_0,s0_1⟩
 ·exact ⟨-1,(bind_s e0).trans (bif_t (dec_t c0)),.inl (by omega)⟩
 obtain ⟨r1,e1,c1⟩:=laws_szIntS.eq k q0 p0 h2
 rcases c1 with c1| ⟨p1,q1,s1_0⟩
 ·exact ⟨-1,(bind_s e0).trans<|(bif_f (dec_f (by omega))).trans<|(bind_s e1).trans (bif_t (dec_t c1)),.inl (by omega)⟩
 obtain ⟨r2,e2,c2⟩:=laws_szIntS.eq k q1 p1 h3
 rcases c2 with c2| ⟨p2,q2,s2_0⟩
 ·exact ⟨-1,(bind_s e0).trans<|(bif_f (dec_f (by omega))).trans<|(bind_s e1).trans<|(bif_f (dec_f (by omega))).trans<|(bind_s e2).trans (bif_t (dec_t c2)),.inl (by omega)⟩
 obtain ⟨r3,e3,c3⟩:=laws_szGame.eq hk q2 p2 h4 h5 h6 h7 h8 h9
 rcases c3 with c3| ⟨p3,q3,s3_0,s3_1,s3_2,s3_3,s3_4,s3_5⟩
 ·exact ⟨-1,(bind_s e0).trans<|(bif_f (dec_f (by omega))).trans<|(bind_s e1).trans<|(bif_f (dec_f (by omega))).trans<|(bind_s e2).trans<|(bif_f (dec_f (by omega))).trans<|(bind_s e3).trans (bif_t (dec_t c3)),.inl (by omega)⟩
 obtain ⟨r4,e4,c4⟩:=laws_szIntS.eq k q3 p3 h10
 rcases c4 with c4| ⟨p4,q4,s4_0⟩
 ·exact ⟨-1,(bind_s e0).trans<|(bif_f (dec_f (by omega))).trans<|(bind_s e1).trans<|(bif_f (dec_f (by omega))).trans<|(bind_s e2).trans<|(bif_f (dec_f (by omega))).trans<|(bind_s e3).trans<|(bif_f (dec_f (by omega))).trans<|(bind_s e4).trans (bif_t (dec_t c4)),.inl (by omega)⟩
 obtain ⟨r5,e5,c5⟩:=laws_szIntSS.eq hk q4 p4 h11 h12
 rcases c5 with c5| ⟨p5,q5,s5_0,s5_1⟩
 ·exact ⟨-1,(bind_s e0).trans<|(bif_f (dec_f (by omega))).trans<|(bind_s e1).trans<|(bif_f (dec_f (by omega))).trans<|(bind_s e2).trans<|(bif_f (dec_f (by omega))).trans<|(bind_s e3).trans<|(bif_f (dec_f (by omega))).trans<|(bind_s e4).trans<|(bif_f (dec_f (by omega))).trans<|(bind_s e5).trans (bif_t (dec_t c5)),.inl (by omega)⟩
 exact ⟨r5,(bind_s e0).trans<|(bif_f (dec_f (by omega))).trans<|(bind_s e1).trans<|(bif_f (dec_f (by omega))).trans<|(bind_s e2).trans<|(bif_f (dec_f (by omega))).trans<|(bind_s e3).trans<|(bif_f (dec_f (by omega))).trans<|(bind_s e4).trans<|(bif_f (dec_f (by omega))).trans<|(bind_s e5).trans<|(bif_f (dec_f (by omega))).trans<|rfl,.inr ⟨p5,q5,s0_0,s0_1,s1_0,s2_0,s3_0,s3_1,s3_2,s3_3,s3_4,s3_5,s4_0,s5_0,s5_1⟩⟩
theorem laws_toIntS.loop {R:Type} {k:Nat} (hk:BIG<=k) (v:List Int) (e0:List Int->Option R) (hv:v.length<1048577): ∀(m i n:Nat),i+m=v.length->m<n->laws_toIntS.l3 k v e0 n (i:Int) (v.take i++List.replicate m 0)=e0 v:=by
 intro m
 induction m with
 |zero=>
  intro i n hi hn
  obtain ⟨n,rfl⟩: ∃n',n=n' +1:=⟨n-1,by omega⟩
  refine (laws_toIntS.l3_succ ..).trans ?_
  refine (bif_f (dec_f (by omega))).trans ?_
  simp[show i=v.length by omega]
 |succ m ih=>
  intro i n hi hn
  obtain ⟨n,rfl⟩: ∃n',n=n' +1:=⟨n-1,by omega⟩
  have hil:i<v.length:=by omega
  refine (laws_toIntS.l3_succ ..).trans ?_
  refine (bif_t (dec_t (by omega))).trans ?_
  refine (chk_t (in_t hil)).trans ?_
  refine (chk_t (and_t (dec_t (by omega)) (dec_t (by simp;omega)))).trans ?_
  rw[wrap_up (by omega),Int.toNat_natCast,getD_lt _ hil]
  have:=ih (i+1) n (by omega) (by omega)
  rw[<- this,copy_step hil]
theorem laws_toIntS.eq {k:Nat} (hk:BIG<=k) {v:List Int} (hv:v.length<1048577):laws_toIntS.f k v=some v:=by
 refine (chk_t (and_t (dec_t (by omega)) (dec_t (by simp[room];omega)))).trans ?_
 have:=laws_toIntS.loop hk v (fun x=>some x) hv v.length 0 k (by omega) (by simp[BIG] at hk;omega)
 simpa using this
theorem laws_toRules.eq {k:Nat} (hk:BIG<=k) {a0:Int} {a1:Int} {a2:Bool} {a3:Bool} {a4:List Int} {a5:List Int} {a6:Int} {a7:Int} (h0:a4.length<1048577) (h1:a5.length<1048577):laws_toRules.f k a0 a1 a2 a3 a4 a5 a6 a7=some (a0,a1,a2,a3,a4,a5,a6,a7):=by
 exact (bind_s (laws_toIntS.eq hk h0)).trans<|(bind_s (laws_toIntS.eq hk h1)).trans<|rfl
theorem laws_toIntSS.loop {R:Type} {k:Nat} (hk:BIG<=k) (v:List (List Int)) (e0:List (List Int)->Option R) (hv:v.length<1048577) (hv2: ∀y∈v,y.length<1048577): ∀(m i n:Nat),i+m=v.length->m<n->laws_toIntSS.l3 k v e0 n (i:Int) (v.take i++List.replicate m [])=e0 v:=by
 intro m
 induction m with
 |zero=>
  intro i n hi hn
  obtain ⟨n,rfl⟩: ∃n',n=n' +1:=⟨n-1,by omega⟩
  refine (laws_toIntSS.l3_succ ..).trans ?_
  refine (bif_f (dec_f (by omega))).trans ?_
  simp[show i=v.length by omega]
 |succ m ih=>
  intro i n hi hn
  obtain ⟨n,rfl⟩: ∃n',n=n' +1:=⟨n-1,by omega⟩
  have hil:i<v.length:=by omega
  refine (laws_toIntSS.l3_succ ..).trans ?_
  refine (bif_t (dec_t (by omega))).trans ?_
  refine (chk_t (in_t hil)).trans ?_
  rw[Int.toNat_natCast,getD_lt _ hil]
  refine (bind_s (laws_toIntS.eq hk (hv2 _ (List.getElem_mem hil)))).trans ?_
  refine (chk_t (and_t (dec_t (by omega)) (dec_t (by simp;omega)))).trans ?_
  rw[wrap_up (by omega)]
  have:=ih (i+1) n (by omega) (by omega)
  rw[<- this,copy_step hil]
theorem laws_toIntSS.eq {k:Nat} (hk:BIG<=k) {v:List (List Int)} (hv:v.length<1048577) (hv2: ∀y∈v,y.length<1048577):laws_toIntSS.f k v=some v:=by
 refine (chk_t (and_t (dec_t (by omega)) (dec_t (by simp[room];omega)))).trans ?_
 have:=laws_toIntSS.loop hk v (fun x=>some x) hv hv2 v.length 0 k (by omega) (by simp[BIG] at hk;omega)
 simpa using this
theorem laws_toGame.eq {k:Nat} (hk:BIG<=k) {a0:Int} {a1:Int} {a2:Bool} {a3:Bool} {a4:List Int} {a5:List Int} {a6:Int} {a7:Int} {a8:List (List Int)} {a9:List Int} {a10:List Int} {a11:Int} {a12:Int} {a13:Int} (h0:a4.length<1048577) (h1:a5.length<1048577) (h2:a8.length<1048577) (h3: ∀y∈a8,y.length<1048577) (h4:a9.length<1048577) (h5:a10.length<1048577):laws_toGame.f k a0 a1 a2 a3 a4 a5 a6 a7 a8 a9 a10 a11 a12 a13=some (a0,a1,a2,a3,a4,a5,a6,a7,a8,a9,a10,a11,a12,a13):=by
 exact (bind_s (laws_toRules.eq hk h0 h1)).trans<|(bind_s (laws_toIntSS.eq hk h2 h3)).trans<|(bind_s (laws_toIntS.eq hk h4)).trans<|(bind_s (laws_toIntS.eq hk h5)).trans<|rfl
theorem laws_toTable.eq {k:Nat} (hk:BIG<=k) {a0:Int} {a1:Int} {a2:Bool} {a3:Bool} {a4:List Int} {a5:List Int} {a6:Int} {a7:Int} {a8:List Int} {a9:Bool} {a10:List Int} {a11:Int} {a12:Int} {a13:Bool} {a14:Bool} {a15:List Int} {a16:List Int} {a17:Int} {a18:Int} {a19:List (List Int)} {a20:List Int} {a21:List Int} {a22:Int} {a23:Int} {a24:Int} {a25:List Int} {a26:List (List Int)} (h0:a4.length<1048577) (h1:a5.length<1048577) (h2:a8.length<1048577) (h3:a10.length<1048577) (h4:a15.length<1048577) (h5:a16.length<1048577) (h6:a19.length<1048577) (h7: ∀y∈a19,y.length<1048577) (h8:a20.length<1048577) (h9:a21.length<1048577) (h10:a25.length<1048577) (h11:a26.length<1048577) (h12: ∀y∈a26,y.length<1048577):laws_toTable.f k a0 a1 a2 a3 a4 a5 a6 a7 a8 a9 a10 a11 a12 a13 a14 a15 a16 a17 a18 a19 a20 a21 a22 a23 a24 a25 a26=some (a0,a1,a2,a3,a4,a5,a6,a7,a8,a9,a10,a11,a12,a13,a14,a15,a16,a17,a18,a19,a20,a21,a22,a23,a24,a25,a26):=by
 exact (bind_s (laws_toRules.eq hk h0 h1)).trans<|(bind_s (laws_toIntS.eq hk h2)).trans<|(bind_s (laws_toIntS.eq hk h3)).trans<|(bind_s (laws_toGame.eq hk h4 h5 h6 h7 h8 h9)).trans<|(bind_s (laws_toIntS.eq hk h10)).trans<|(bind_s (laws_toIntSS.eq hk h11 h12)).trans<|rfl
theorem laws_eqIntS.loop {R:Type} {k:Nat} (hk:BIG<=k) (v:List Int) (e0 e1:Option R) (hv:v.length<1048577): ∀(m i n:Nat),i+m=v.length->m<n->laws_eqIntS.l4 k v v e0 e1 n (i:Int)=e1:=by
 intro m
 induction m with
 |zero=>
  intro i n hi hn
  obtain ⟨n,rfl⟩: ∃n',n=n' +1:=⟨n-1,by omega⟩
  refine (laws_eqIntS.l4_succ ..).trans ?_
  exact bif_f (dec_f (by omega))
 |succ m ih=>
  intro i n hi hn
  obtain ⟨n,rfl⟩: ∃n',n=n' +1:=⟨n-1,by omega⟩
  have hil:i<v.length:=by omega
  refine (laws_eqIntS.l4_succ ..).trans ?_
  refine (bif_t (dec_t (by omega))).trans ?_
  refine (chk_t (in_t hil)).trans ?_
  refine (chk_t (in_t hil)).trans ?_
  refine (bif_f (by simp)).trans ?_
  rw[wrap_up (by omega)]
  exact ih (i+1) n (by omega) (by omega)
theorem laws_eqIntS.eq {k:Nat} (hk:BIG<=k) {v:List Int} (hv:v.length<1048577):laws_eqIntS.f k v v=some true:=by
 refine (bif_f (by simp)).trans ?_
 exact laws_eqIntS.loop hk v _ _ hv v.length 0 k (by omega) (by simp[BIG] at hk;omega)
theorem laws_eqRules.eq {k:Nat} (hk:BIG<=k) {a0:Int} {a1:Int} {a2:Bool} {a3:Bool} {a4:List Int} {a5:List Int} {a6:Int} {a7:Int} (h0:a4.length<1048577) (h1:a5.length<1048577):laws_eqRules.f k a0 a1 a2 a3 a4 a5 a6 a7 a0 a1 a2 a3 a4 a5 a6 a7=some true:=by
 exact (bif_f (by simp)).trans<|(bif_f (by simp)).trans<|(bif_f (by simp)).trans<|(bif_f (by simp)).trans<|(bind_s (laws_eqIntS.eq hk h0)).trans<|(bif_f rfl).trans<|(bind_s (laws_eqIntS.eq hk h1)).trans<|(bif_f rfl).trans<|(bif_f (by simp)).trans<|(bif_f (by simp)).trans<|rfl
theorem laws_eqIntSS.loop {R:Type} {k:Nat} (hk:BIG<=k) (v:List (List Int)) (e0 e1:Option R) (hv:v.length<1048577) (hv2: ∀y∈v,y.length<1048577): ∀(m i n:Nat),i+m=v.length->m<n->laws_eqIntSS.l4 k v v e0 e1 n (i:Int)=e1:=by
 intro m
 induction m with
 |zero=>
  intro i n hi hn
  obtain ⟨n,rfl⟩: ∃n',n=n' +1:=⟨n-1,by omega⟩
  refine (laws_eqIntSS.l4_succ ..).trans ?_
  exact bif_f (dec_f (by omega))
 |succ m ih=>
  intro i n hi hn
  obtain ⟨n,rfl⟩: ∃n',n=n' +1:=⟨n-1,by omega⟩
  have hil:i<v.length:=by omega
  refine (laws_eqIntSS.l4_succ ..).trans ?_
  refine (bif_t (dec_t (by omega))).trans ?_
  refine (chk_t (in_t hil)).trans ?_
  refine (chk_t (in_t hil)).trans ?_
  rw[Int.toNat_natCast,getD_lt _ hil]
  refine (bind_s (laws_eqIntS.eq hk (hv2 _ (List.getElem_mem hil)))).trans ?_
  refine (bif_f rfl).trans ?_
  rw[wrap_up (by omega)]
  exact ih (i+1) n (by omega) (by omega)
theorem laws_eqIntSS.eq {k:Nat} (hk:BIG<=k) {v:List (List Int)} (hv:v.length<1048577) (hv2: ∀y∈v,y.length<1048577):laws_eqIntSS.f k v v=some true:=by
 refine (bif_f (by simp)).trans ?_
 exact laws_eqIntSS.loop hk v _ _ hv hv2 v.length 0 k (by omega) (by simp[BIG] at hk;omega)
theorem laws_eqGame.eq {k:Nat} (hk:BIG<=k) {a0:Int} {a1:Int} {a2:Bool} {a3:Bool} {a4:List Int} {a5:List Int} {a6:Int} {a7:Int} {a8:List (List Int)} {a9:List Int} {a10:List Int} {a11:Int} {a12:Int} {a13:Int} (h0:a4.length<1048577) (h1:a5.length<1048577) (h2:a8.length<1048577) (h3: ∀y∈a8,y.length<1048577) (h4:a9.length<1048577) (h5:a10.length<1048577):laws_eqGame.f k a0 a1 a2 a3 a4 a5 a6 a7 a8 a9 a10 a11 a12 a13 a0 a1 a2 a3 a4 a5 a6 a7 a8 a9 a10 a11 a12 a13=some true:=by
 exact (bind_s (laws_eqRules.eq hk h0 h1)).trans<|(bif_f rfl).trans<|(bind_s (laws_eqIntSS.eq hk h2 h3)).trans<|(bif_f rfl).trans<|(bind_s (laws_eqIntS.eq hk h4)).trans<|(bif_f rfl).trans<|(bind_s (laws_eqIntS.eq hk h5)).trans<|(bif_f rfl).trans<|(bif_f (by simp)).trans<|(bif_f (by simp)).trans<|(bif_f (by simp)).trans<|rfl
theorem laws_eqTable.eq {k:Nat} (hk:BIG<=k) {a0:Int} {a1:Int} {a2:Bool} {a3:Bool} {a4:List Int} {a5:List Int} {a6:Int} {a7:Int} {a8:List Int} {a9:Bool} {a10:List Int} {a11:Int} {a12:Int} {a13:Bool} {a14:Bool} {a15:List Int} {a16:List Int} {a17:Int} {a18:Int} {a19:List (List Int)} {a20:List Int} {a21:List Int} {a22:Int} {a23:Int} {a24:Int} {a25:List Int} {a26:List (List Int)} (h0:a4.length<1048577) (h1:a5.length<1048577) (h2:a8.length<1048577) (h3:a10.length<1048577) (h4:a15.length<1048577) (h5:a16.length<1048577) (h6:a19.length<1048577) (h7: ∀y∈a19,y.length<1048577) (h8:a20.length<1048577) (h9:a21.length<1048577) (h10:a25.length<1048577) (h11:a26.length<1048577) (h12: ∀y∈a26,y.length<1048577):laws_eqTable.f k a0 a1 a2 a3 a4 a5 a6 a7 a8 a9 a10 a11 a12 a13 a14 a15 a16 a17 a18 a19 a20 a21 a22 a23 a24 a25 a26 a0 a1 a2 a3 a4 a5 a6 a7 a8 a9 a10 a11 a12 a13 a14 a15 a16 a17 a18 a19 a20 a21 a22 a23 a24 a25 a26=some true:=by
 exact (bind_s (laws_eqRules.eq hk h0 h1)).trans<|(bif_f rfl).trans<|(bind_s (laws_eqIntS.eq hk h2)).trans<|(bif_f rfl).trans<|(bif_f (by simp)).trans<|(bind_s (laws_eqIntS.eq hk h3)).trans<|(bif_f rfl).trans<|(bind_s (laws_eqGame.eq hk h4 h5 h6 h7 h8 h9)).trans<|(bif_f rfl).trans<|(bind_s (laws_eqIntS.eq hk h10)).trans<|(bif_f rfl).trans<|(bind_s (laws_eqIntSS.eq hk h11 h12)).trans<|(bif_f rfl).trans<|rfl
theorem laws_markIntS.loop {R:Type} {k:Nat} (N:Nat) (m:Int) (e0:Int->List Int->Option R) (hN:N<1048577) (h0:0<=m) (hm:m<=2305843009213693952): ∀(r i n:Nat) (x:List Int),i+r=N->r<n->x.length=N->(∀j,j<i->x[j]? =some (m+(j:Int)))-> ∃y,laws_markIntS.l2 k e0 n (m+(i:Int)) (i:Int) x=e0 (m+(N:Int)) y/\y.length=N/\ ∀j,j<N->y[j]? =some (m+(j:Int)):=by
 intro r
 induction r with
 |zero=>
  intro i n x hi hn hx hj
  obtain ⟨n,rfl⟩: ∃n',n=n' +1:=⟨n-1,by omega⟩
  obtain rfl:i=N:=by omega
  exact ⟨x,(laws_markIntS.l2_succ ..).trans (bif_f (dec_f (by omega))),hx,hj⟩
 |succ r ih=>
  intro i n x hi hn hx hj
  obtain ⟨n,rfl⟩: ∃n',n=n' +1:=⟨n-1,by omega⟩
  have hil:i<x.length:=by omega
  obtain ⟨y,g1,g2,g3⟩:=ih (i+1) n (x.set i (m+(i:Int))) (by omega) (by omega) (by simpa using hx) (fun j hj'=>by
   rw[List.getElem?_set]
   by_cases e:i=j
   ·subst e;simp[hil]
   ·rw[if_neg e];exact hj j (by omega))
  refine ⟨y,?_,g2,g3⟩
  refine (laws_markIntS.l2_succ ..).trans ((bif_t (dec_t (by omega))).trans ((chk_t (in_t hil)).trans ?_))
  rw[Int.toNat_natCast,wrap_up (by omega),wrap_i64 (by omega) (by omega),show m+(i:Int)+1=m+((i+1:Nat):Int) by omega]
  exact g1
theorem laws_markIntS.eq {k:Nat} (hk:BIG<=k) (v:List Int) (m:Int) (hv:v.length<1048577) (h0:0<=m) (hm:m<=2305843009213693952): ∃m' w,laws_markIntS.f k v m=some (m',w)/\mkI w m m':=by
 obtain ⟨y,g1,g2,g3⟩:=laws_markIntS.loop (k:=k) v.length m (fun x1 x2=>some (x1,x2)) hv h0 hm v.length 0 k v (by omega) (BIG_lt hk hv) rfl (fun j hj=>by omega)
 refine ⟨m+(v.length:Int),y,?_,⟨by omega,by omega,fun j hj=>g3 j (by omega)⟩⟩
 rw[show m+((0:Nat):Int)=m by simp] at g1
 exact g1
theorem laws_markRules.eq {k:Nat} (hk:BIG<=k) (a0:Int) (a1:Int) (a2:Bool) (a3:Bool) (a4:List Int) (a5:List Int) (a6:Int) (a7:Int) (m:Int) (h0:a4.length<1048577) (h1:a5.length<1048577) (hm0:0<=m) (hm:m<=1152921504606846976): ∃m1 m2 a4' a5',laws_markRules.f k a0 a1 a2 a3 a4 a5 a6 a7 m=some (m2,a0,a1,a2,a3,a4',a5',a6,a7)/\mkI a4' m m1/\mkI a5' m1 m2:=by
 obtain ⟨m1,a4',e0,q0⟩:=laws_markIntS.eq hk a4 m h0 (by omega) (by omega)
 have b0:=mkI_le q0
 obtain ⟨m2,a5',e1,q1⟩:=laws_markIntS.eq hk a5 m1 h1 (by omega) (by omega)
 have b1:=mkI_le q1
 exact ⟨m1,m2,a4',a5',(bind_s e0).trans<|(bind_s e1).trans<|rfl,q0,q1⟩
theorem laws_markIntSS.loop {R:Type} {k:Nat} (hk:BIG<=k) (N:Nat) (e0:Int->List (List Int)->Option R) (hN:N<1048577): ∀(r i n:Nat) (m:Int) (x:List (List Int)),i+r=N->r<n->x.length=N->(∀j (h:j<x.length),i<=j->x[j].length<1048577)->0<=m->m<=1154047404513689600+(i:Int)*1048576-> ∃m' y,laws_markIntSS.l2 k e0 n m (i:Int) x=e0 m' y/\y.length=N/\y.take i=x.take i/\mkIIs (y.drop i) m m' /\m<=m' /\m' <=m+(r:Int)*1048576:=by
 intro r
 induction r with
 |zero=>
  intro i n m x hi hn hx hs h0 hm
  obtain ⟨n,rfl⟩: ∃n',n=n' +1:=⟨n-1,by omega⟩
  exact ⟨m,x,(laws_markIntSS.l2_succ ..).trans (bif_f (dec_f (by omega))),hx,rfl,by rw[List.drop_eq_nil_of_le (by omega)];exact rfl,by omega,by omega⟩
 |succ r ih=>
  intro i n m x hi hn hx hs h0 hm
  obtain ⟨n,rfl⟩: ∃n',n=n' +1:=⟨n-1,by omega⟩
  have hil:i<x.length:=by omega
  obtain ⟨q,w,e,hq⟩:=laws_markIntS.eq hk x[i] m (hs i hil (Nat.le_refl _)) h0 (by omega)
  have hb:=mkI_le hq
  obtain ⟨m',y,g1,g2,g3,g4,g5,g6⟩:=ih (i+1) n q (x.set i w) (by omega) (by omega) (by simpa using hx) (fun j hj hij=>by
   rw[List.getElem_set_ne (by omega)]
   exact hs j (by simpa using hj) (by omega)) (by omega) (by omega)
  obtain ⟨k1,k2⟩:=drop_of_take (by omega) hil g3
  refine ⟨m',y,?_,g2,k1,by rw[k2];exact ⟨q,hq,g4⟩,by omega,by omega⟩
  refine (laws_markIntSS.l2_succ ..).trans ((bif_t (dec_t (by omega))).trans ((chk_t (in_t hil)).trans ?_))
  rw[Int.toNat_natCast,getD_lt _ hil]
  refine (chk_t (blt_t hil)).trans ((bind_s e).trans ?_)
  rw[wrap_up (by omega)]
  exact g1
theorem laws_markIntSS.eq {k:Nat} (hk:BIG<=k) (v:List (List Int)) (m:Int) (hv:v.length<1048577) (hv2: ∀y∈v,y.length<1048577) (h0:0<=m) (hm:m<=1154047404513689600): ∃m' w,laws_markIntSS.f k v m=some (m',w)/\mkII w m m':=by
 obtain ⟨m',y,g1,g2,g3,g4,g5,g6⟩:=laws_markIntSS.loop hk v.length (fun x2 x3=>some (x2,x3)) hv v.length 0 k m v (by omega) (BIG_lt hk hv) rfl (fun j hj _=>hv2 _ (List.getElem_mem hj)) h0 (by omega)
 exact ⟨m',y,g1,by omega,g5,by omega,by simpa using g4⟩
theorem laws_markGame.eq {k:Nat} (hk:BIG<=k) (a0:Int) (a1:Int) (a2:Bool) (a3:Bool) (a4:List Int) (a5:List Int) (a6:Int) (a7:Int) (a8:List (List Int)) (a9:List Int) (a10:List Int) (a11:Int) (a12:Int) (a13:Int) (m:Int) (h0:a4.length<1048577) (h1:a5.length<1048577) (h2:a8.length<1048577) (h3: ∀y∈a8,y.length<1048577) (h4:a9.length<1048577) (h5:a10.length<1048577) (hm0:0<=m) (hm:m<=1151795604700004352): ∃m1 m2 m3 m4 m5 a4' a5' a8' a9' a10',laws_markGame.f k a0 a1 a2 a3 a4 a5 a6 a7 a8 a9 a10 a11 a12 a13 m=some (m5,a0,a1,a2,a3,a4',a5',a6,a7,a8',a9',a10',a11,a12,a13)/\mkI a4' m m1/\mkI a5' m1 m2/\mkII a8' m2 m3/\mkI a9' m3 m4/\mkI a10' m4 m5:=by
 obtain ⟨m1,m2,a4',a5',e0,q0,q1⟩:=laws_markRules.eq hk a0 a1 a2 a3 a4 a5 a6 a7 m h0 h1 (by omega) (by omega)
 have b0:=mkI_le q0
 have b1:=mkI_le q1
 obtain ⟨m3,a8',e2,q2⟩:=laws_markIntSS.eq hk a8 m2 h2 h3 (by omega) (by omega)
 have b2:=mkII_le q2
 obtain ⟨m4,a9',e3,q3⟩:=laws_markIntS.eq hk a9 m3 h4 (by omega) (by omega)
 have b3:=mkI_le q3
 obtain ⟨m5,a10',e4,q4⟩:=laws_markIntS.eq hk a10 m4 h5 (by omega) (by omega)
 have b4:=mkI_le q4
 exact ⟨m1,m2,m3,m4,m5,a4',a5',a8',a9',a10',(bind_s e0).trans<|(bind_s e2).trans<|(bind_s e3).trans<|(bind_s e4).trans<|rfl,q0,q1,q2,q3,q4⟩
theorem laws_markTable.eq {k:Nat} (hk:BIG<=k) (a0:Int) (a1:Int) (a2:Bool) (a3:Bool) (a4:List Int) (a5:List Int) (a6:Int) (a7:Int) (a8:List Int) (a9:Bool) (a10:List Int) (a11:Int) (a12:Int) (a13:Bool) (a14:Bool) (a15:List Int) (a16:List Int) (a17:Int) (a18:Int) (a19:List (List Int)) (a20:List Int) (a21:List Int) (a22:Int) (a23:Int) (a24:Int) (a25:List Int) (a26:List (List Int)) (m:Int) (h0:a4.length<1048577) (h1:a5.length<1048577) (h2:a8.length<1048577) (h3:a10.length<1048577) (h4:a15.length<1048577) (h5:a16.length<1048577) (h6:a19.length<1048577) (h7: ∀y∈a19,y.length<1048577) (h8:a20.length<1048577) (h9:a21.length<1048577) (h10:a25.length<1048577) (h11:a26.length<1048577) (h12: ∀y∈a26,y.length<1048577) (hm0:0<=m) (hm:m<=1150669704793161728): ∃m1 m2 m3 m4 m5 m6 m7 m8 m9 m10 m11 a4' a5' a8' a10' a15' a16' a19' a20' a21' a25' a26',laws_markTable.f k a0 a1 a2 a3 a4 a5 a6 a7 a8 a9 a10 a11 a12 a13 a14 a15 a16 a17 a18 a19 a20 a21 a22 a23 a24 a25 a26 m=some (m11,a0,a1,a2,a3,a4',a5',a6,a7,a8',a9,a10',a11,a12,a13,a14,a15',a16',a17,a18,a19',a20',a21',a22,a23,a24,a25',a26')/\mkI a4' m m1/\mkI a5' m1 m2/\mkI a8' m2 m3/\mkI a10' m3 m4/\mkI a15' m4 m5/\mkI a16' m5 m6/\mkII a19' m6 m7/\mkI a20' m7 m8/\mkI a21' m8 m9/\mkI a25' m9 m10/\mkII a26' m10 m11:=by
 obtain ⟨m1,m2,a4',a5',e0,q0,q1⟩:=laws_markRules.eq hk a0 a1 a2 a3 a4 a5 a6 a7 m h0 h1 (by omega) (by omega)
 have b0:=mkI_le q0
 have b1:=mkI_le q1
 obtain ⟨m3,a8',e2,q2⟩:=laws_markIntS.eq hk a8 m2 h2 (by omega) (by omega)
 have b2:=mkI_le q2
 obtain ⟨m4,a10',e3,q3⟩:=laws_markIntS.eq hk a10 m3 h3 (by omega) (by omega)
 have b3:=mkI_le q3
 obtain ⟨m5,m6,m7,m8,m9,a15',a16',a19',a20',a21',e4,q4,q5,q6,q7,q8⟩:=laws_markGame.eq hk a11 a12 a13 a14 a15 a16 a17 a18 a19 a20 a21 a22 a23 a24 m4 h4 h5 h6 h7 h8 h9 (by omega) (by omega)
 have b4:=mkI_le q4
 have b5:=mkI_le q5
 have b6:=mkII_le q6
 have b7:=mkI_le q7
 have b8:=mkI_le q8
 obtain ⟨m10,a25',e9,q9⟩:=laws_markIntS.eq hk a25 m9 h10 (by omega) (by omega)
 have b9:=mkI_le q9
 obtain ⟨m11,a26',e10,q10⟩:=laws_markIntSS.eq hk a26 m10 h11 h12 (by omega) (by omega)
 have b10:=mkII_le q10
 exact ⟨m1,m2,m3,m4,m5,m6,m7,m8,m9,m10,m11,a4',a5',a8',a10',a15',a16',a19',a20',a21',a25',a26',(bind_s e0).trans<|(bind_s e2).trans<|(bind_s e3).trans<|(bind_s e4).trans<|(bind_s e9).trans<|(bind_s e10).trans<|rfl,q0,q1,q2,q3,q4,q5,q6,q7,q8,q9,q10⟩
theorem laws_heldIntS.eq {k:Nat} (hk:BIG<=k) (w:List Int) (m m':Int) (hw:mkI w m m') (h0:0<=m) (hm:m<=2305843009213693952):laws_heldIntS.f k w m=some m':=by
 obtain ⟨hl,rfl,hj⟩:=hw
 have key: ∀(r i n:Nat),i+r=w.length->r<n->laws_heldIntS.l2 k w (fun x1=>some (-1:Int)) (fun x2=>some x2) n (m+(i:Int)) (i:Int)=some (m+(w.length:Int)):=by
  intro r
  induction r with
  |zero=>
   intro i n hi hn
   obtain ⟨n,rfl⟩: ∃n',n=n' +1:=⟨n-1,by omega⟩
   obtain rfl:i=w.length:=by omega
   exact (laws_heldIntS.l2_succ ..).trans (bif_f (dec_f (by omega)))
  |succ r ih=>
   intro i n hi hn
   obtain ⟨n,rfl⟩: ∃n',n=n' +1:=⟨n-1,by omega⟩
   have hil:i<w.length:=by omega
   refine (laws_heldIntS.l2_succ ..).trans ((bif_t (dec_t (by omega))).trans ((chk_t (in_t hil)).trans ?_))
   rw[Int.toNat_natCast,List.getD_eq_getElem?_getD,hj i hil]
   refine (bif_f (by simp)).trans ?_
   rw[wrap_up (by omega),wrap_i64 (by omega) (by omega),show m+(i:Int)+1=m+((i+1:Nat):Int) by omega]
   exact ih (i+1) n (by omega) (by omega)
 have:=key w.length 0 k (by omega) (BIG_lt hk hl)
 rw[show m+((0:Nat):Int)=m by simp] at this
 exact this
theorem laws_heldRules.eq {k:Nat} (hk:BIG<=k) (a0:Int) (a1:Int) (a2:Bool) (a3:Bool) (a4:List Int) (a5:List Int) (a6:Int) (a7:Int) (m m1 m2:Int) (q0:mkI a4 m m1) (q1:mkI a5 m1 m2) (hm0:0<=m) (hm:m<=1152921504606846976):laws_heldRules.f k a0 a1 a2 a3 a4 a5 a6 a7 m=some m2:=by
 have b0:=mkI_le q0
 have b1:=mkI_le q1
 exact (bind_s (laws_heldIntS.eq hk a4 m m1 q0 (by omega) (by omega))).trans<|(bif_f (dec_f (by omega))).trans<|(bind_s (laws_heldIntS.eq hk a5 m1 m2 q1 (by omega) (by omega))).trans<|(bif_f (dec_f (by omega))).trans<|rfl
theorem laws_heldIntSS.eq {k:Nat} (hk:BIG<=k) (w:List (List Int)) (m m':Int) (hw:mkII w m m') (h0:0<=m) (hm:m<=1154047404513689600):laws_heldIntSS.f k w m=some m':=by
 obtain ⟨hl,_,_,hj⟩:=hw
 have key: ∀(r i n:Nat) (m:Int),i+r=w.length->r<n->mkIIs (w.drop i) m m'->0<=m->m<=1154047404513689600+(i:Int)*1048576->laws_heldIntSS.l2 k w (fun x1=>some (-1:Int)) (fun x2=>some x2) n m (i:Int)=some m':=by
  intro r
  induction r with
  |zero=>
   intro i n m hi hn hj h0 hm
   obtain ⟨n,rfl⟩: ∃n',n=n' +1:=⟨n-1,by omega⟩
   rw[List.drop_eq_nil_of_le (by omega)] at hj
   have hj:m' =m:=hj
   subst hj
   exact (laws_heldIntSS.l2_succ ..).trans (bif_f (dec_f (by omega)))
  |succ r ih=>
   intro i n m hi hn hj h0 hm
   obtain ⟨n,rfl⟩: ∃n',n=n' +1:=⟨n-1,by omega⟩
   have hil:i<w.length:=by omega
   rw[drop_cons hil] at hj
   obtain ⟨q,hq,hj⟩:=hj
   have hb:=mkI_le hq
   refine (laws_heldIntSS.l2_succ ..).trans ((bif_t (dec_t (by omega))).trans ((chk_t (in_t hil)).trans ?_))
   rw[Int.toNat_natCast,getD_lt _ hil]
   refine (bind_s (laws_heldIntS.eq hk _ _ _ hq h0 (by omega))).trans ((bif_f (dec_f (by omega))).trans ?_)
   rw[wrap_up (by omega)]
   exact ih (i+1) n q (by omega) (by omega) hj (by omega) (by omega)
 exact key w.length 0 k m (by omega) (BIG_lt hk hl) (by simpa using hj) h0 (by omega)
theorem laws_heldGame.eq {k:Nat} (hk:BIG<=k) (a0:Int) (a1:Int) (a2:Bool) (a3:Bool) (a4:List Int) (a5:List Int) (a6:Int) (a7:Int) (a8:List (List Int)) (a9:List Int) (a10:List Int) (a11:Int) (a12:Int) (a13:Int) (m m1 m2 m3 m4 m5:Int) (q0:mkI a4 m m1) (q1:mkI a5 m1 m2) (q2:mkII a8 m2 m3) (q3:mkI a9 m3 m4) (q4:mkI a10 m4 m5) (hm0:0<=m) (hm:m<=1151795604700004352):laws_heldGame.f k a0 a1 a2 a3 a4 a5 a6 a7 a8 a9 a10 a11 a12 a13 m=some m5:=by
 have b0:=mkI_le q0
 have b1:=mkI_le q1
 have b2:=mkII_le q2
 have b3:=mkI_le q3
 have b4:=mkI_le q4
 exact (bind_s (laws_heldRules.eq hk a0 a1 a2 a3 a4 a5 a6 a7 m m1 m2 q0 q1 (by omega) (by omega))).trans<|(bif_f (dec_f (by omega))).trans<|(bind_s (laws_heldIntSS.eq hk a8 m2 m3 q2 (by omega) (by omega))).trans<|(bif_f (dec_f (by omega))).trans<|(bind_s (laws_heldIntS.eq hk a9 m3 m4 q3 (by omega) (by omega))).trans<|(bif_f (dec_f (by omega))).trans<|(bind_s (laws_heldIntS.eq hk a10 m4 m5 q4 (by omega) (by omega))).trans<|(bif_f (dec_f (by omega))).trans<|rfl
theorem laws_heldTable.eq {k:Nat} (hk:BIG<=k) (a0:Int) (a1:Int) (a2:Bool) (a3:Bool) (a4:List Int) (a5:List Int) (a6:Int) (a7:Int) (a8:List Int) (a9:Bool) (a10:List Int) (a11:Int) (a12:Int) (a13:Bool) (a14:Bool) (a15:List Int) (a16:List Int) (a17:Int) (a18:Int) (a19:List (List Int)) (a20:List Int) (a21:List Int) (a22:Int) (a23:Int) (a24:Int) (a25:List Int) (a26:List (List Int)) (m m1 m2 m3 m4 m5 m6 m7 m8 m9 m10 m11:Int) (q0:mkI a4 m m1) (q1:mkI a5 m1 m2) (q2:mkI a8 m2 m3) (q3:mkI a10 m3 m4) (q4:mkI a15 m4 m5) (q5:mkI a16 m5 m6) (q6:mkII a19 m6 m7) (q7:mkI a20 m7 m8) (q8:mkI a21 m8 m9) (q9:mkI a25 m9 m10) (q10:mkII a26 m10 m11) (hm0:0<=m) (hm:m<=1150669704793161728):laws_heldTable.f k a0 a1 a2 a3 a4 a5 a6 a7 a8 a9 a10 a11 a12 a13 a14 a15 a16 a17 a18 a19 a20 a21 a22 a23 a24 a25 a26 m=some m11:=by
 have b0:=mkI_le q0
 have b1:=mkI_le q1
 have b2:=mkI_le q2
 have b3:=mkI_le q3
 have b4:=mkI_le q4
 have b5:=mkI_le q5
 have b6:=mkII_le q6
 have b7:=mkI_le q7
 have b8:=mkI_le q8
 have b9:=mkI_le q9
 have b10:=mkII_le q10
 exact (bind_s (laws_heldRules.eq hk a0 a1 a2 a3 a4 a5 a6 a7 m m1 m2 q0 q1 (by omega) (by omega))).trans<|(bif_f (dec_f (by omega))).trans<|(bind_s (laws_heldIntS.eq hk a8 m2 m3 q2 (by omega) (by omega))).trans<|(bif_f (dec_f (by omega))).trans<|(bind_s (laws_heldIntS.eq hk a10 m3 m4 q3 (by omega) (by omega))).trans<|(bif_f (dec_f (by omega))).trans<|(bind_s (laws_heldGame.eq hk a11 a12 a13 a14 a15 a16 a17 a18 a19 a20 a21 a22 a23 a24 m4 m5 m6 m7 m8 m9 q4 q5 q6 q7 q8 (by omega) (by omega))).trans<|(bif_f (dec_f (by omega))).trans<|(bind_s (laws_heldIntS.eq hk a25 m9 m10 q9 (by omega) (by omega))).trans<|(bif_f (dec_f (by omega))).trans<|(bind_s (laws_heldIntSS.eq hk a26 m10 m11 q10 (by omega) (by omega))).trans<|(bif_f (dec_f (by omega))).trans<|rfl
end Go.Proofs.YtbmmhdmljajcfaaGreatDoor
