/- The parser of patterns, walked by hand. Conditions: as each theorem says. -/
import Derived.Test.YtbmmhdmljajcfaaGreatDoorNote
set_option linter.unusedVariables false
set_option linter.unusedSimpArgs false
namespace Go.Proofs.YtbmmhdmljajcfaaGreatDoor.Ca
open Go Go.RowKit Go.Proofs.YtbmmhdmljajcfaaGreatDoor.V
theorem Nt.ints {W w:World} {N i:Nat} {s:BA} {l:LI} (h:Nt W N s i l w): ∃v,w.cell? ⟨N,2,none⟩=some v/\rE w v l/\w.ownsRow (N+1) 3 1 v l.length (l.map (Value.int .i64)):=by
 obtain ⟨v,hb,ho⟩:=h.O1
 refine ⟨v,by rw[cY hb];rfl,?_,ho⟩
 rcases ho.2 with ⟨rfl,h0⟩| ⟨g,cap,Xx,rfl,hg,hc,hn,hm,oX,ht⟩
 ·exact ⟨none,0,(by show Value.slice none 0 0= .slice none l.length 0;rw[h0]),(by show l.length<=0;omega),fun e=>absurd h0 e⟩
 ·refine ⟨some ⟨g,0,none⟩,cap,rfl,hn,fun _=>⟨⟨g,0,none⟩,rfl,(Array.getElem?_eq_some_iff.1 hc).1,l.map (Value.int .i64),fun j hj=> ?_,si l⟩⟩
  have hj:j<l.length:=by simpa[Row.cells] using hj
  rw[fS,cY hc,<- ht,Nat.zero_add,List.getElem?_take,if_pos (by omega)]
  simp
theorem Nt.below {W w w':World} {N i:Nat} {s:BA} {l:LI} (h:Nt W N s i l w) (hb:Below w.heap.size w w'):Nt W N s i l w':=by
 obtain ⟨v,hv,ho⟩:=h.O1
 exact ⟨h.wC.trans (hb.mono h.wC.size),h.le,v,(hb.block N h.lt).trans hv,ot ho fun b _ iS=>hb.block b iS⟩
theorem Nt.start {W:World} {s:BA}:Nt W W.heap.size s 0 [] (W.alloc (.cells #[.string s,.int .i64 0,.slice none 0 0] 180)):=
 ⟨(Below.refl _ _).alloc (Nat.le_refl _) _,Nat.le_refl _,.slice none 0 0,heap_alloc_new W _,World.ownsRow_nil _ _ _ _⟩
theorem Ev {C:Cx} {g:yb} {args:List Value} {v:Value} {l:LI} {b:Bool} {w':World} {N:Nat} (hr:g.results.length=2) (yc:wN g.kS=true) (hb:Below C.w0.heap.size C.w0 w') (hN:C.w0.heap.size<=N) (ho:w'.ownsRow N 3 1 v l.length (l.map (Value.int .i64))):V.Ends C g args [.l (.sl .own (.ints .i64 l)),.l (.b b)] (.returned (.tuple #[v,.bool b])) w':=by
 have hf:V.Frame C w':= .AD hb
 rcases ho.2 with ⟨rfl,h0⟩| ⟨g',cap,Xx,rfl,hg,hc,hn,hm,oX,ht⟩
 ·refine ⟨[.slice none 0 0,.bool b],fz,rfl,by simpa using hr.symm,hf,fun b=>by simp,fun b hb=>by simp at hb,?_⟩
  rw[ky _ _ yc,List.append_nil]
  exact ⟨fz,fz,⟨none,rfl,.inl ⟨rfl,h0,rfl⟩⟩,⟨fz,fz,⟨rfl,rfl⟩,rfl,(dw _).symm⟩,(dw _).symm⟩
 ·refine ⟨[.slice (some ⟨g',0,none⟩) l.length cap,.bool b],f1 g',rfl,by simpa using hr.symm,hf,fun b=>by rw[Dv];split<;>omega,fun b hb=> ?_,?_⟩
  ·have:b=g':=by rw[Dv] at hb;split at hb<;>first|assumption|omega
   subst this
   exact ⟨(Array.getElem?_eq_some_iff.1 hc).1,.inl (by omega)⟩
  ·rw[ky _ _ yc,List.append_nil]
   refine ⟨f1 g',fz,⟨some (g',cap),rfl,.inr ⟨g',cap,Xx,3,fz,rfl,hc,hn,by show cap*1<=Xx.size;omega,?_,(dw _).symm⟩⟩,⟨fz,fz,⟨rfl,rfl⟩,rfl,(dw _).symm⟩,(dw _).symm⟩
   have e:Xx.toList=l.map (Value.int .i64)++Xx.toList.drop (l.length*1):=by rw[<- ht,List.take_append_drop]
   rw[e]
   exact (si l).more _
set_option maxHeartbeats 8000000 in
set_option maxRecDepth 100000 in
theorem P3 {F:LI->Option BA} (hPT: ∀l r,F l=some r->eP Tryz.prog 164 ⟨[22],[9],[.qp],.own⟩ [.l (.sl .bi (.ints .i64 l))] [.l (.s r)]) {s:BA} {r:LI×Bool} (h:EF F s=some r):
 eP Tryz.prog 131 ⟨[9],[22,4],[.qp],.own⟩ [.l (.s s)] [.l (.sl .own (.ints .i64 r.1)),.l (.b r.2)]:=by
 intro C args hP jX g1 g2
 match args,jX with
 | [u],⟨F1,F2,⟨hu,_⟩,_,_⟩=>
   have hu:u= .string s:=hu
   subst hu
   show Calls Tryz.prog 131 #[.string s] C.w0 _
   unfold EF at h
   by_cases hs:s.size<=100
   ·have iS: ¬(100:Int)<(s.size:Int):=by omega
    rw[show Nat.ble s.size 100=true from Nat.ble_eq_true_of_le hs,cond_true] at h
    have RA:=fun w hw=>Sf (W:=C.w0) (N:=C.w0.heap.size) hs s.size 0 [] w hw (Nat.zero_le _) (Nat.le_refl _) (by omega)
    have lN:=Nt.start (W:=C.w0) (s:=s)
    rcases e2:kY (s.size+1) s 0 [] with ⟨Se,i2,l2⟩
    simp only[e2] at RA h
    cases Se with
    |false=>
     dsimp only at h RA
     cases h
     go_enter Tryz.func131,Tryz.ntmps131
     go_wp2_with (go_at_call 222;refine (RA _ lN).mono ?_;rintro e1 w1 ⟨rfl,mG⟩)
     go_ret2
     exact Ev (N:=C.w0.heap.size) (l:=[]) rfl rfl ((mG.wC.alloc mG.wC.size _)) (Nat.le_refl _) (World.ownsRow_made _ #[] 0 mG.wC.size (by decide) rfl)
    |true=>
     dsimp only at h RA
     cases ht:F l2 with
     |none=>rw[ht] at h;cases h
     |some t=>
      rw[ht] at h
      have hpt:=hPT l2 t ht
      cases CG:(t.toList==s.toList)
      ·have h:(bif t.toList==s.toList then some (l2,true) else some ([],false))=some r:=h
       rw[CG,cond_false] at h
       cases h
       go_enter Tryz.func131,Tryz.ntmps131
       go_wp2_with (first
        | (go_at_call 222;refine (RA _ lN).mono ?_;rintro e1 w1 ⟨rfl,mG⟩;obtain ⟨v1,d1,hi1,ho1⟩:=mG.ints;have b1:=mG.fr 2)
        | (go_at_call 164;refine (R2 hpt rfl hP mG.wC (C7 hi1)).mono ?_;rintro e2 w2 ⟨rfl,Cd⟩))
       go_ret2
       exact Ev (N:=C.w0.heap.size) (l:=[]) rfl rfl (((mG.wC.trans (Cd.mono mG.wC.size)).alloc (Nat.le_trans mG.wC.size Cd.size) _)) (Nat.le_refl _) (World.ownsRow_made _ #[] 0 (Nat.le_trans mG.wC.size Cd.size) (by decide) rfl)
      ·have h:(bif t.toList==s.toList then some (l2,true) else some ([],false))=some r:=h
       rw[CG,cond_true] at h
       cases h
       go_enter Tryz.func131,Tryz.ntmps131
       go_wp2_with (first
        | (go_at_call 222;refine (RA _ lN).mono ?_;rintro e1 w1 ⟨rfl,mG⟩;obtain ⟨v1,d1,hi1,ho1⟩:=mG.ints;have b1:=mG.fr 2)
        | (go_at_call 164;refine (R2 hpt rfl hP mG.wC (C7 hi1)).mono ?_;rintro e2 w2 ⟨rfl,Cd⟩;have d2:=(Cd.cell (p:=⟨C.w0.heap.size,2,none⟩) mG.lt).trans d1))
       go_ret2
       exact Ev (N:=C.w0.heap.size+1) rfl rfl (mG.wC.trans (Cd.mono mG.wC.size)) (by omega) (ot ho1 fun b _ iS=>Cd.block b iS)
   ·have iS:(100:Int)<(s.size:Int):=by omega
    rw[show Nat.ble s.size 100=false from Bool.eq_false_iff.2 (fun e=>hs (Nat.le_of_ble_eq_true e)),cond_false] at h
    cases h
    go_enter Tryz.func131,Tryz.ntmps131
    go_wp2_with fail
    go_ret2
    have lN:=Nt.start (W:=C.w0) (s:=s)
    have e:(C.w0.alloc (.cells #[.string s,.int .i64 0,.slice none 0 0] 180)).heap.size=C.w0.heap.size+1:=by show (C.w0.heap.push _).size=_;simp
    have ho:=World.ownsRow_made (C.w0.alloc (.cells #[.string s,.int .i64 0,.slice none 0 0] 180)) (base:=C.w0.heap.size) (e:=3) (size:=1) #[] 0 (by omega) (by decide) rfl
    rw[e] at ho
    exact Ev (N:=C.w0.heap.size) (l:=[]) rfl rfl (lN.wC.alloc lN.wC.size _) (Nat.le_refl _) ho
