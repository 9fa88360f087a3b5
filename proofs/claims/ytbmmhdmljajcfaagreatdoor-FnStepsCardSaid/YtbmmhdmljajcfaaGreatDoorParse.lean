/- The parser of patterns, walked by hand. Conditions: as each theorem says. -/
import Derived.Test.YtbmmhdmljajcfaaGreatDoorNote
set_option linter.unusedVariables false
set_option linter.unusedSimpArgs false
namespace Go.Proofs.YtbmmhdmljajcfaaGreatDoor.DR
open Go Go.RowKit Go.Proofs.YtbmmhdmljajcfaaGreatDoor.V
theorem Nt.ints {W w:World} {N i:Nat} {s:ByteArray} {l:List Int} (h:Nt W N s i l w): ∃v,w.cell? ⟨N,2,none⟩=some v/\tb w v l/\w.ownsRow (N+1) 3 1 v l.length (l.map (Value.int .i64)):=by
 obtain ⟨v,hb,ho⟩:=h.Im
 refine ⟨v,by rw[bJ hb];rfl,?_,ho⟩
 rcases ho.2 with ⟨rfl,h0⟩| ⟨g,cap,OE,rfl,hg,hc,hn,hm,mb,ht⟩
 ·exact ⟨none,0,(by show Value.slice none 0 0= .slice none l.length 0;rw[h0]),(by show l.length<=0;omega),fun e=>absurd h0 e⟩
 ·refine ⟨some ⟨g,0,none⟩,cap,rfl,hn,fun _=>⟨⟨g,0,none⟩,rfl,(Array.getElem?_eq_some_iff.1 hc).1,l.map (Value.int .i64),fun j hj=> ?_,mM l⟩⟩
  have hj:j<l.length:=by simpa[Row.cells] using hj
  rw[dr,bJ hc,<- ht,Nat.zero_add,List.getElem?_take,if_pos (by omega)]
  simp
theorem Nt.below {W w w':World} {N i:Nat} {s:ByteArray} {l:List Int} (h:Nt W N s i l w) (hb:Below w.heap.size w w'):Nt W N s i l w':=by
 obtain ⟨v,hv,ho⟩:=h.Im
 exact ⟨h.ub.trans (hb.mono h.ub.size),h.le,v,(hb.block N h.lt).trans hv,jK ho fun b _ fJ=>hb.block b fJ⟩
theorem Nt.start {W:World} {s:ByteArray}:Nt W W.heap.size s 0 [] (W.alloc (.cells #[.string s,.int .i64 0,.slice none 0 0] 180)):=
 ⟨(Below.refl _ _).alloc (Nat.le_refl _) _,Nat.le_refl _,.slice none 0 0,heap_alloc_new W _,World.ownsRow_nil _ _ _ _⟩
theorem yl {C:Cx} {g:pL} {args:List Value} {v:Value} {l:List Int} {b:Bool} {w':World} {N:Nat} (hr:g.results.length=2) (yf:pP g.gj=true) (hb:Below C.w0.heap.size C.w0 w') (hN:C.w0.heap.size<=N) (ho:w'.ownsRow N 3 1 v l.length (l.map (Value.int .i64))):V.Ends C g args [.l (.sl .own (.ints .i64 l)),.l (.b b)] (.returned (.tuple #[v,.bool b])) w':=by
 have hf:V.Frame C w':= .ym hb
 rcases ho.2 with ⟨rfl,h0⟩| ⟨g',cap,OE,rfl,hg,hc,hn,hm,mb,ht⟩
 ·refine ⟨[.slice none 0 0,.bool b],fz,rfl,by simpa using hr.symm,hf,fun b=>by simp,fun b hb=>by simp at hb,?_⟩
  rw[gm _ _ yf,List.append_nil]
  exact ⟨fz,fz,⟨none,rfl,.inl ⟨rfl,h0,rfl⟩⟩,⟨fz,fz,⟨rfl,rfl⟩,rfl,(b_ _).symm⟩,(b_ _).symm⟩
 ·refine ⟨[.slice (some ⟨g',0,none⟩) l.length cap,.bool b],f1 g',rfl,by simpa using hr.symm,hf,fun b=>by rw[xn];split<;>omega,fun b hb=> ?_,?_⟩
  ·have:b=g':=by rw[xn] at hb;split at hb<;>first|assumption|omega
   subst this
   exact ⟨(Array.getElem?_eq_some_iff.1 hc).1,.inl (by omega)⟩
  ·rw[gm _ _ yf,List.append_nil]
   refine ⟨f1 g',fz,⟨some (g',cap),rfl,.inr ⟨g',cap,OE,3,fz,rfl,hc,hn,by show cap*1<=OE.size;omega,?_,(b_ _).symm⟩⟩,⟨fz,fz,⟨rfl,rfl⟩,rfl,(b_ _).symm⟩,(b_ _).symm⟩
   have e:OE.toList=l.map (Value.int .i64)++OE.toList.drop (l.length*1):=by rw[<- ht,List.take_append_drop]
   rw[e]
   exact (mM l).more _
set_option maxHeartbeats 8000000 in
set_option maxRecDepth 100000 in
theorem I6 {F:List Int->Option ByteArray} (WD: ∀l r,F l=some r->fM Tryz.prog 164 ⟨[22],[9],[.oU],.own⟩ [.l (.sl .aZ (.ints .i64 l))] [.l (.s r)]) {s:ByteArray} {r:List Int×Bool} (h:yu F s=some r):
 fM Tryz.prog 131 ⟨[9],[22,4],[.oU],.own⟩ [.l (.s s)] [.l (.sl .own (.ints .i64 r.1)),.l (.b r.2)]:=by
 intro C args hP fj g1 g2
 match args,fj with
 | [u],⟨F1,F2,⟨hu,_⟩,_,_⟩=>
   have hu:u= .string s:=hu
   subst hu
   show Calls Tryz.prog 131 #[.string s] C.w0 _
   unfold yu at h
   by_cases hs:s.size<=100
   ·have fJ: ¬(100:Int)<(s.size:Int):=by omega
    rw[show Nat.ble s.size 100=true from Nat.ble_eq_true_of_le hs,cond_true] at h
    have Kf:=fun w hw=>KD (W:=C.w0) (N:=C.w0.heap.size) hs s.size 0 [] w hw (Nat.zero_le _) (Nat.le_refl _) (by omega)
    have iq:=Nt.start (W:=C.w0) (s:=s)
    rcases e2:lO (s.size+1) s 0 [] with ⟨N0,i2,l2⟩
    simp only[e2] at Kf h
    cases N0 with
    |false=>
     dsimp only at h Kf
     cases h
     go_enter Tryz.func131,Tryz.ntmps131
     go_wp2_with (go_at_call 222;refine (Kf _ iq).mono ?_;rintro e1 w1 ⟨rfl,iu⟩)
     go_ret2
     exact yl (N:=C.w0.heap.size) (l:=[]) rfl rfl ((iu.ub.alloc iu.ub.size _)) (Nat.le_refl _) (World.ownsRow_made _ #[] 0 iu.ub.size (by decide) rfl)
    |true=>
     dsimp only at h Kf
     cases ht:F l2 with
     |none=>rw[ht] at h;cases h
     |some t=>
      rw[ht] at h
      have Vt:=WD l2 t ht
      cases wL:(t.toList==s.toList)
      ·have h:(bif t.toList==s.toList then some (l2,true) else some ([],false))=some r:=h
       rw[wL,cond_false] at h
       cases h
       go_enter Tryz.func131,Tryz.ntmps131
       go_wp2_with (first
        | (go_at_call 222;refine (Kf _ iq).mono ?_;rintro e1 w1 ⟨rfl,iu⟩;obtain ⟨v1,d1,T4,Tr⟩:=iu.ints;have b1:=iu.fr 2)
        | (go_at_call 164;refine (Ku Vt rfl hP iu.ub (NY T4)).mono ?_;rintro e2 w2 ⟨rfl,Ki⟩))
       go_ret2
       exact yl (N:=C.w0.heap.size) (l:=[]) rfl rfl (((iu.ub.trans (Ki.mono iu.ub.size)).alloc (Nat.le_trans iu.ub.size Ki.size) _)) (Nat.le_refl _) (World.ownsRow_made _ #[] 0 (Nat.le_trans iu.ub.size Ki.size) (by decide) rfl)
      ·have h:(bif t.toList==s.toList then some (l2,true) else some ([],false))=some r:=h
       rw[wL,cond_true] at h
       cases h
       go_enter Tryz.func131,Tryz.ntmps131
       go_wp2_with (first
        | (go_at_call 222;refine (Kf _ iq).mono ?_;rintro e1 w1 ⟨rfl,iu⟩;obtain ⟨v1,d1,T4,Tr⟩:=iu.ints;have b1:=iu.fr 2)
        | (go_at_call 164;refine (Ku Vt rfl hP iu.ub (NY T4)).mono ?_;rintro e2 w2 ⟨rfl,Ki⟩;have d2:=(Ki.cell (p:=⟨C.w0.heap.size,2,none⟩) iu.lt).trans d1))
       go_ret2
       exact yl (N:=C.w0.heap.size+1) rfl rfl (iu.ub.trans (Ki.mono iu.ub.size)) (by omega) (jK Tr fun b _ fJ=>Ki.block b fJ)
   ·have fJ:(100:Int)<(s.size:Int):=by omega
    rw[show Nat.ble s.size 100=false from Bool.eq_false_iff.2 (fun e=>hs (Nat.le_of_ble_eq_true e)),cond_false] at h
    cases h
    go_enter Tryz.func131,Tryz.ntmps131
    go_wp2_with fail
    go_ret2
    have iq:=Nt.start (W:=C.w0) (s:=s)
    have e:(C.w0.alloc (.cells #[.string s,.int .i64 0,.slice none 0 0] 180)).heap.size=C.w0.heap.size+1:=by show (C.w0.heap.push _).size=_;simp
    have ho:=World.ownsRow_made (C.w0.alloc (.cells #[.string s,.int .i64 0,.slice none 0 0] 180)) (base:=C.w0.heap.size) (e:=3) (size:=1) #[] 0 (by omega) (by decide) rfl
    rw[e] at ho
    exact yl (N:=C.w0.heap.size) (l:=[]) rfl rfl (iq.ub.alloc iq.ub.size _) (Nat.le_refl _) ho
end Go.Proofs.YtbmmhdmljajcfaaGreatDoor.DR
