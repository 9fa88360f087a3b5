/- The reader of patterns, walked by hand: next, read, pair. Conditions: as each theorem says. -/
import Derived.Test.YtbmmhdmljajcfaaGreatDoorNoteF
import Derived.Test.YtbmmhdmljajcfaaGreatDoorHand
import Derived.Test.YtbmmhdmljajcfaaGreatDoorShelf
import Derived.Deep.AppendLies
import Derived.BigQuiet
set_option linter.unusedVariables false
set_option linter.unusedSimpArgs false
namespace Go.Proofs.YtbmmhdmljajcfaaGreatDoor.Ca
open Go Go.RowKit Go.Proofs.YtbmmhdmljajcfaaGreatDoor.V
theorem ZI:(Tryz.prog.info? 3).map (fun i=>(i.zero,i.size,i.bytes))=some (some (.int .i64 0),1,8):=by kernel_rfl
set_option maxHeartbeats 4000000 in
theorem Sb {w:World} {N:Nat} {s:BA} {i:Nat} (hi:i<1000) (h0:w.cell? ⟨N,0,none⟩=some (.string s)) (h1:w.cell? ⟨N,1,none⟩=some (.int .i64 (i:Int))):
 Calls Tryz.prog 299 #[.pointer (some ⟨N,0,none⟩)] w fun e w'=>e= .returned (.int .u8 (fB s i))/\ ∃m,w' =w.drewN m:=by
 by_cases h:i<s.size
 ·have iS:(i:Int)<(s.size:Int):=by omega
  have hge:(0:Int)<=(i:Int):=by omega
  have hn:fB s i=((s[i]'h).toNat:Int):=by unfold fB;rw[dif_pos h]
  go_enter Tryz.func299,Tryz.ntmps299
  go_wp2_with fail
  go_quiet (fail)
  go_wp2
  go_quiet (fail)
  go_wp2
  go_ret
  exact ⟨by rw[hn];rfl,_,World.drewN_drewN _ _ _⟩
 ·have iS: ¬(i:Int)<(s.size:Int):=by omega
  have hn:fB s i=0:=by unfold fB;rw[dif_neg h]
  go_enter Tryz.func299,Tryz.ntmps299
  go_wp2_with fail
  go_quiet (fail)
  go_wp2
  go_ret
  exact ⟨by rw[hn];rfl,_,rfl⟩
theorem EI (w:World): ∀m:Nat,(w.drewN m).heap=w.heap/\(w.drewN m).os=w.os/\(w.drewN m).tape=w.tape/\(w.drewN m).output=w.output
 |0=>⟨rfl,rfl,rfl,rfl⟩
 |m+1=>EI w.drew m
structure Nt (W:World) (N:Nat) (s:BA) (i:Nat) (l:LI) (w:World):Prop where
 wC:Below W.heap.size W w
 le:W.heap.size<=N
 O1: ∃v,w.heap[N]? =some (.cells #[.string s,.int .i64 (i:Int),v] 180 (0,0))/\w.ownsRow (N+1) 3 1 v l.length (l.map (Value.int .i64))
section
variable {W w:World} {N i:Nat} {s:BA} {l:LI}
theorem Nt.c0 (h:Nt W N s i l w):w.cell? ⟨N,0,none⟩=some (.string s):=by
 obtain ⟨v,hb,_⟩:=h.O1
 rw[cY hb];rfl
theorem Nt.c1 (h:Nt W N s i l w):w.cell? ⟨N,1,none⟩=some (.int .i64 (i:Int)):=by
 obtain ⟨v,hb,_⟩:=h.O1
 rw[cY hb];rfl
theorem Nt.c2 (h:Nt W N s i l w): ∃v,w.cell? ⟨N,2,none⟩=some v:=by
 obtain ⟨v,hb,_⟩:=h.O1
 rw[cY hb];exact ⟨v,rfl⟩
theorem Xw {u v:Value} (h:w.cell? ⟨N,2,none⟩=some v):(w.setCell ⟨N,1,none⟩ u).cell? ⟨N,2,none⟩=some v:=by
 rw[World.cell?_setCell_other]
 ·exact h
 ·simp
theorem Nt.fr (h:Nt W N s i l w) (j:Nat):w.frozen? ⟨N,j,none⟩=false:=by
 obtain ⟨v,hb,_⟩:=h.O1
 simp[World.frozen?,hb]
theorem Nt.lt (h:Nt W N s i l w):N<w.heap.size:=by
 obtain ⟨v,hb,_⟩:=h.O1
 exact (Array.getElem?_eq_some_iff.1 hb).1
theorem ot {w w':World} {base e size n:Nat} {v:Value} {xs:List Value} (h:w.ownsRow base e size v n xs) (hb: ∀b,base<=b->b<w.heap.size->w'.heap[b]? =w.heap[b]?):w'.ownsRow base e size v n xs:=by
 refine ⟨h.1,h.2.imp id fun ⟨g,cap,Xx,e1,e2,e3,e4⟩=>⟨g,cap,Xx,e1,e2,?_,e4⟩⟩
 rw[hb g e2 (Array.getElem?_eq_some_iff.1 e3).1,e3]
theorem Nt.drewN (h:Nt W N s i l w) (m:Nat):Nt W N s i l (w.drewN m):=by
 obtain ⟨v,hb,ho⟩:=h.O1
 obtain ⟨e,e1,e2,e3⟩:=EI w m
 exact ⟨⟨e1.trans h.wC.os,e2.trans h.wC.tape,e3.trans h.wC.output,by rw[e];exact h.wC.size,by rw[e];exact h.wC.block⟩,h.le,v,by rw[e];exact hb,ot ho fun b _ _=>by rw[e]⟩
theorem Nt.sj (h:Nt W N s i l w):Nt W N s (i+1) l (w.setCell ⟨N,1,none⟩ (.int .i64 ((i:Int)+1))):=by
 obtain ⟨v,hb,ho⟩:=h.O1
 refine ⟨h.wC.setCell h.le _,h.le,v,?_,ot ho fun b h1 _=>Below.heap_setCell _ _ _ _ (by show b≠N;omega)⟩
 have hN:=h.lt
 simp only[World.setCell]
 rw[Array.getElem?_modify,if_pos rfl,hb]
 simp
theorem jP (h:Nt W N s i l w) (hi:i<1000):Calls Tryz.prog 299 #[.pointer (some ⟨N,0,none⟩)] w fun e w'=>e= .returned (.int .u8 (fB s i))/\Nt W N s i l w':=
 (Sb hi h.c0 h.c1).mono fun e w' ⟨he,m,hw⟩=>⟨he,hw ▸ h.drewN m⟩
structure Nl (W:World) (N:Nat) (s:BA) (i:Nat) (l:LI) (v:Value) (w:World):Prop where
 wC:Below W.heap.size W w
 le:W.heap.size<=N
 O1: ∃u,w.heap[N]? =some (.cells #[.string s,.int .i64 (i:Int),u] 180 (0,0))
 own:w.ownsRow (N+1) 3 1 v l.length (l.map (Value.int .i64))
theorem Nl.c2 {v:Value} (h:Nl W N s i l v w): ∃u,w.cell? ⟨N,2,none⟩=some u:=by
 obtain ⟨u,hb⟩:=h.O1
 rw[cY hb];exact ⟨u,rfl⟩
theorem Nl.fr {v:Value} (h:Nl W N s i l v w):w.frozen? ⟨N,2,none⟩=false:=by
 obtain ⟨u,hb⟩:=h.O1
 simp[World.frozen?,hb]
theorem Nl.put {v:Value} (h:Nl W N s i l v w):Nt W N s i l (w.setCell ⟨N,2,none⟩ v):=by
 obtain ⟨u,hb⟩:=h.O1
 refine ⟨h.wC.setCell h.le _,h.le,v,?_,ot h.own fun b h1 _=>Below.heap_setCell _ _ _ _ (by show b≠N;omega)⟩
 simp only[World.setCell]
 rw[Array.getElem?_modify,if_pos rfl,hb]
 simp
theorem zO {ops:Array Oper} {rest:List Oper} {o:Oper} {a:Act} {Q:Exit->Act->World->Prop} {x:Int} (h:Nt W N s i l w) (hl:l.length<1000) (v:Value) (hv:w.cell? ⟨N,2,none⟩=some v) (M7:o.guard=none) (so xo:Operand)
 (ho:o.op= .call {callee:= .builtin .append,args:= #[so,xo],argTypes:= #[22,22]}) (hs:a.eval so=v) (H:Nat) (hx:a.eval xo= .slice (some ⟨H,0,none⟩) 1 1) (hH:w.heap.size=H)
 (hK: ∀g cap w',Nl W N s i (l++[x]) (.slice (some ⟨g,0,none⟩) (l.length+1) cap) w'->wpList Tryz.prog ops Q rest (a.put o.dst (.slice (some ⟨g,0,none⟩) (l.length+1) cap)) w'):wpList Tryz.prog ops Q (o::rest) a (w.alloc (.cells #[.int .i64 x] 3)):=by
 obtain ⟨i0,hi,hz0,hz1,YV⟩:=info_parts ZI
 obtain ⟨v',hb,P4⟩:=h.O1
 have hN:=h.lt
 have:v' =v:=by rw[cY hb] at hv;simpa using hv
 subst this
 subst hH
 have wO:(w.alloc (.cells #[.int .i64 x] 3)).heap[w.heap.size]? =some (.cells #[.int .i64 x] 3 (0,0)):=heap_alloc_new w _
 refine wpList_append_lies _ M7 so xo 22 ho (N+1) 3 i0 (.int .i64 0) 1 8 Tryz.underlying22 hi hz0 hz1 YV rfl (by decide) v' l.length (l.map (Value.int .i64)) hs (ot P4 fun b _ iS=>Below.heap_alloc _ _ _ iS) ⟨w.heap.size,0,none⟩ 1 1 [.int .i64 x] hx rfl
  (World.news_of_block wO) (fun u hu=>by simp at hu;subst hu;rfl) (by omega) (by unfold maxLen;omega) (by omega) (by simp;omega) _ rfl fun g cap w' ZJ O2 hg iS=>hK g cap w' ?_
 have ZK:=P4.lt
 have nL: ∀k,v'.ownBlock=some k->N+1<=k:=fun k hk=>(ZK k hk).1
 refine ⟨(h.wC.alloc h.wC.size _).grown O2 (by simp;have:=h.wC.size;omega) fun k hk=>by have:=nL k hk;have:=h.le;omega,h.le,⟨v',?_⟩,?_⟩
 ·rw[O2.block N (by simp;omega) (fun e=>by have:=nL N e.symm;omega),Below.heap_alloc _ _ _ hN]
  exact hb
 ·rw[List.map_append,List.length_append]
  exact ZJ
end
theorem Jp (s:BA) (c:Int) (w:World):Calls Tryz.prog 246 #[.string s,.int .u8 c] w fun e w'=>e= .returned (.int .i64 (se s c))/\w' =w:=Tryz.strings_IndexByte _ c w
theorem UW (c:Int):se ⟨#[99,100,104,115]⟩ c=C8 c:=rfl
theorem UX (c:Int):se ⟨#[50,51,52,53,54,55,56,57,84,74,81,75,65]⟩ c=xa c:=rfl
theorem pW {s:BA} {i:Nat} (h:fB s i≠0):i<s.size:=by
 unfold fB at h
 split at h
 ·assumption
 ·exact absurd rfl h
def Rd (s:BA) (rd:Nat->LI->Bool×Nat×LI):Prop:= ∀i l i' l',i<=s.size->rd i l=(true,i',l')->i<=i' /\i' <=s.size/\l'.length+i<=l.length+i'
theorem Sc {rd:Nat->LI->Bool×Nat×LI} {s:BA} (h:Rd s rd):Rd s (AE rd s):=by
 intro i l i' l' hi hr
 unfold AE at hr
 split at hr
 ·cases hr
 ·rename_i i1 l1 e1
  obtain ⟨g1,g2,g3⟩:=h i l i1 l1 hi e1
  split at hr
  ·rename_i hc
   have iS:i1<s.size:=pW (by rcases hc with e|e<;>rw[e]<;>decide)
   split at hr
   ·cases hr
   ·rename_i i2 l2 e2
    obtain ⟨k1,k2,k3⟩:=h _ l1 i2 l2 (by omega) e2
    split at hr
    ·rename_i Ry
     have D8:i2<s.size:=pW (by rw[Ry];decide)
     cases hr
     refine ⟨by omega,by omega,by simp;omega⟩
    ·cases hr
  ·cases hr
theorem sk (s:BA): ∀k,Rd s (kY k s):=by
 intro k
 induction k with
 |zero=>intro i l i' l' _ h;cases h
 |succ k ih=>
  intro i l i' l' hi hr
  unfold kY at hr
  split at hr
  ·cases hr
  rename_i h0
  have iS:=pW h0
  split at hr
  ·split at hr
   ·cases hr
   ·rename_i i1 l1 e1
    obtain ⟨g1,g2,g3⟩:=ih _ l i1 l1 (by omega) e1
    cases hr
    exact ⟨by omega,g2,by simp;omega⟩
  split at hr
  ·obtain ⟨g1,g2,g3⟩:=Sc ih _ l i' l' (by omega) hr
   exact ⟨by omega,g2,by omega⟩
  split at hr
  ·cases hr;exact ⟨by omega,by omega,by simp;omega⟩
  split at hr
  ·cases hr;exact ⟨by omega,by omega,by simp;omega⟩
  split at hr
  ·cases hr
  split at hr
  ·rename_i YW
   have D8:i+1<s.size:=pW (by rw[YW];decide)
   cases hr;exact ⟨by omega,by omega,by simp;omega⟩
  ·cases hr;exact ⟨by omega,by omega,by simp;omega⟩
theorem Wj (l:List UInt8) (c:UInt8):Lib.indexByte l c<=l.length:=by
 induction l with
 |nil=>unfold Lib.indexByte;simp
 |cons b l ih=>
  unfold Lib.indexByte
  split
  ·simp;omega
  ·split
   ·simp;omega
   ·simp only[List.length_cons];omega
theorem EJ (c:Int):C8 c<=4/\ -1<=C8 c:=⟨Wj _ _,Lib.indexByte_ge _ _⟩
theorem EK (c:Int):xa c<=13/\ -1<=xa c:=⟨Wj _ _,Lib.indexByte_ge _ _⟩
def Reads (W:World) (N:Nat) (s:BA) (f:FuncId) (k:Nat) (rd:Nat->LI->Bool×Nat×LI):Prop:=
 ∀i l w,Nt W N s i l w->i<=s.size->l.length<=i->s.size<=i+k->Calls Tryz.prog f #[.pointer (some ⟨N,0,none⟩)] w fun e w'=>e= .returned (.bool (rd i l).1)/\Nt W N s (rd i l).2.1 (rd i l).2.2 w'
set_option maxHeartbeats 4000000 in
theorem Sd {W:World} {N:Nat} {s:BA} {k:Nat} (hs:s.size<=100) {rd:Nat->LI->Bool×Nat×LI} (RA:Rd s rd) (h:Reads W N s 222 k rd):Reads W N s 300 k (AE rd s):=by
 intro i l w hn hi hl hk
 have c:=h i l w hn hi hl hk
 unfold AE
 rcases e:rd i l with ⟨ok,i1,l1⟩
 rw[e] at c
 cases ok with
 |false=>
  dsimp only at c ⊢
  go_enter Tryz.func300,Tryz.ntmps300
  go_wp2_with (go_at_call 222;refine c.mono ?_;rintro e1 w1 ⟨rfl,mG⟩)
  go_ret
  exact ⟨rfl,mG⟩
 |true=>
  obtain ⟨g1,g2,g3⟩:=RA i l i1 l1 hi e
  dsimp only at c ⊢
  by_cases hc:fB s i1=38
  ·rw[if_pos (Or.inl hc)]
   have iS:i1<s.size:=pW (by rw[hc];decide)
   have h2:=fun w hw=>h (i1+1) l1 w hw (by omega) (by omega) (by omega)
   rcases e2:rd (i1+1) l1 with ⟨Se,i2,l2⟩
   simp only[e2] at h2
   clear h
   cases Se with
   |false=>
    dsimp only at h2 ⊢
    go_enter Tryz.func300,Tryz.ntmps300
    go_wp2_with (first
     | (go_at_call 222;refine (h2 _ wE.sj).mono ?_;rintro e w3 ⟨rfl,zP⟩)
     | (go_at_call 222;refine c.mono ?_;rintro e1 w1 ⟨rfl,mG⟩)
     | (go_at_call 299;refine (jP mG (by omega)).mono ?_;rintro e w2 ⟨rfl,wE⟩;have a2:=wE.c1;have b2:=wE.fr 1))
    go_ret
    exact ⟨rfl,zP⟩
   |true=>
    obtain ⟨k1,k2,k3⟩:=RA _ l1 i2 l2 (by omega) e2
    dsimp only at h2 ⊢
    by_cases P5:fB s i2=41
    ·rw[if_pos P5];rw[if_pos hc]
     go_enter Tryz.func300,Tryz.ntmps300
     go_wp2_with (first
      | (go_at_call 222;refine (h2 _ wE.sj).mono ?_;rintro e w3 ⟨rfl,zP⟩)
      | (go_at_call 222;refine c.mono ?_;rintro e1 w1 ⟨rfl,mG⟩)
      | (go_at_call 299;refine (jP zP (by omega)).mono ?_;rintro e w4 ⟨rfl,K5⟩;have a4:=K5.c1;have b4:=K5.fr 1;obtain ⟨v4,d4⟩:=K5.sj.c2;have b5:=K5.fr 2)
      | (go_at_call 299;refine (jP mG (by omega)).mono ?_;rintro e w2 ⟨rfl,wE⟩;have a2:=wE.c1;have b2:=wE.fr 1)
      | (at_builtin;refine zO K5.sj (by omega) v4 d4 rfl (.tmp 39) (.tmp 41) rfl rfl _ rfl (by simp) ?_;intro g cap w5 hh;obtain ⟨u5,c5⟩:=hh.c2;have f5:=hh.fr))
     go_ret
     exact ⟨rfl,hh.put⟩
    ·rw[if_neg P5]
     go_enter Tryz.func300,Tryz.ntmps300
     go_wp2_with (first
      | (go_at_call 222;refine (h2 _ wE.sj).mono ?_;rintro e w3 ⟨rfl,zP⟩)
      | (go_at_call 222;refine c.mono ?_;rintro e1 w1 ⟨rfl,mG⟩)
      | (go_at_call 299;refine (jP zP (by omega)).mono ?_;rintro e w4 ⟨rfl,K5⟩)
      | (go_at_call 299;refine (jP mG (by omega)).mono ?_;rintro e w2 ⟨rfl,wE⟩;have a2:=wE.c1;have b2:=wE.fr 1))
     go_ret
     exact ⟨rfl,K5⟩
  by_cases Ry:fB s i1=124
  ·have Xy:=hc
   replace hc:=Ry
   rw[if_pos (Or.inr hc)]
   have iS:i1<s.size:=pW (by rw[hc];decide)
   have h2:=fun w hw=>h (i1+1) l1 w hw (by omega) (by omega) (by omega)
   rcases e2:rd (i1+1) l1 with ⟨Se,i2,l2⟩
   simp only[e2] at h2
   clear h
   cases Se with
   |false=>
    dsimp only at h2 ⊢
    go_enter Tryz.func300,Tryz.ntmps300
    go_wp2_with (first
     | (go_at_call 222;refine (h2 _ wE.sj).mono ?_;rintro e w3 ⟨rfl,zP⟩)
     | (go_at_call 222;refine c.mono ?_;rintro e1 w1 ⟨rfl,mG⟩)
     | (go_at_call 299;refine (jP mG (by omega)).mono ?_;rintro e w2 ⟨rfl,wE⟩;have a2:=wE.c1;have b2:=wE.fr 1))
    go_ret
    exact ⟨rfl,zP⟩
   |true=>
    obtain ⟨k1,k2,k3⟩:=RA _ l1 i2 l2 (by omega) e2
    dsimp only at h2 ⊢
    by_cases P5:fB s i2=41
    ·rw[if_pos P5];rw[if_neg Xy]
     go_enter Tryz.func300,Tryz.ntmps300
     go_wp2_with (first
      | (go_at_call 222;refine (h2 _ wE.sj).mono ?_;rintro e w3 ⟨rfl,zP⟩)
      | (go_at_call 222;refine c.mono ?_;rintro e1 w1 ⟨rfl,mG⟩)
      | (go_at_call 299;refine (jP zP (by omega)).mono ?_;rintro e w4 ⟨rfl,K5⟩;have a4:=K5.c1;have b4:=K5.fr 1;obtain ⟨v4,d4⟩:=K5.sj.c2;have b5:=K5.fr 2)
      | (go_at_call 299;refine (jP mG (by omega)).mono ?_;rintro e w2 ⟨rfl,wE⟩;have a2:=wE.c1;have b2:=wE.fr 1)
      | (at_builtin;refine zO K5.sj (by omega) v4 d4 rfl (.tmp 39) (.tmp 41) rfl rfl _ rfl (by simp) ?_;intro g cap w5 hh;obtain ⟨u5,c5⟩:=hh.c2;have f5:=hh.fr))
     go_ret
     exact ⟨rfl,hh.put⟩
    ·rw[if_neg P5]
     go_enter Tryz.func300,Tryz.ntmps300
     go_wp2_with (first
      | (go_at_call 222;refine (h2 _ wE.sj).mono ?_;rintro e w3 ⟨rfl,zP⟩)
      | (go_at_call 222;refine c.mono ?_;rintro e1 w1 ⟨rfl,mG⟩)
      | (go_at_call 299;refine (jP zP (by omega)).mono ?_;rintro e w4 ⟨rfl,K5⟩)
      | (go_at_call 299;refine (jP mG (by omega)).mono ?_;rintro e w2 ⟨rfl,wE⟩;have a2:=wE.c1;have b2:=wE.fr 1))
     go_ret
     exact ⟨rfl,K5⟩
  rw[if_neg (by rintro (e|e)<;>contradiction)]
  clear h
  go_enter Tryz.func300,Tryz.ntmps300
  go_wp2_with (first
   | (go_at_call 222;refine c.mono ?_;rintro e1 w1 ⟨rfl,mG⟩)
   | (go_at_call 299;refine (jP mG (by omega)).mono ?_;rintro e w2 ⟨rfl,wE⟩))
  go_ret
  exact ⟨rfl,wE⟩
set_option maxHeartbeats 8000000 in
set_option maxRecDepth 100000 in
theorem Sf {W:World} {N:Nat} {s:BA} (hs:s.size<=100): ∀k,Reads W N s 222 k (kY (k+1) s):=by
 intro k
 induction k with
 |zero=>
  intro i l w hn hi hl hk
  have h0:fB s i=0:=by unfold fB;rw[dif_neg (by omega)]
  unfold kY
  rw[if_pos h0]
  go_enter Tryz.func222,Tryz.ntmps222
  go_wp2_with (go_at_call 299;refine (jP hn (by omega)).mono ?_;rintro e w1 ⟨rfl,mG⟩;have a1:=mG.c1;have b1:=mG.fr 1)
  go_ret
  exact ⟨rfl,mG.sj⟩
 |succ k ih=>
  intro i l w hn hi hl hk
  have hp:=Sd hs (sk s (k+1)) ih
  unfold kY
  by_cases h0:fB s i=0
  ·rw[if_pos h0]
   clear ih hp
   go_enter Tryz.func222,Tryz.ntmps222
   go_wp2_with (go_at_call 299;refine (jP hn (by omega)).mono ?_;rintro e w1 ⟨rfl,mG⟩;have a1:=mG.c1;have b1:=mG.fr 1)
   go_ret
   exact ⟨rfl,mG.sj⟩
  rw[if_neg h0]
  have iS:=pW h0
  by_cases h1:fB s i=33
  ·rw[if_pos h1]
   have h2:=fun w hw=>ih (i+1) l w hw (by omega) (by omega) (by omega)
   have h3:=sk s (k+1) (i+1) l
   rcases e2:kY (k+1) s (i+1) l with ⟨Se,i2,l2⟩
   simp only[e2] at h2
   clear ih hp
   cases Se with
   |false=>
    dsimp only at h2 ⊢
    clear h3
    go_enter Tryz.func222,Tryz.ntmps222
    go_wp2_with (first
     | (go_at_call 222;refine (h2 _ mG.sj).mono ?_;rintro e w3 ⟨rfl,zP⟩)
     | (go_at_call 299;refine (jP hn (by omega)).mono ?_;rintro e w1 ⟨rfl,mG⟩;have a1:=mG.c1;have b1:=mG.fr 1))
    go_ret
    exact ⟨rfl,zP⟩
   |true=>
    obtain ⟨k1,k2,k3⟩:=h3 i2 l2 (by omega) e2
    clear h3
    dsimp only at h2 ⊢
    go_enter Tryz.func222,Tryz.ntmps222
    go_wp2_with (first
     | (go_at_call 222;refine (h2 _ mG.sj).mono ?_;rintro e w3 ⟨rfl,zP⟩;obtain ⟨v3,d3⟩:=zP.c2;have b3:=zP.fr 2)
     | (go_at_call 299;refine (jP hn (by omega)).mono ?_;rintro e w1 ⟨rfl,mG⟩;have a1:=mG.c1;have b1:=mG.fr 1)
     | (at_builtin;refine zO zP (by omega) v3 d3 rfl (.tmp 28) (.tmp 29) rfl rfl _ rfl (by simp) ?_;intro g cap w5 hh;obtain ⟨u5,c5⟩:=hh.c2;have f5:=hh.fr))
    go_ret
    exact ⟨rfl,hh.put⟩
  rw[if_neg h1]
  by_cases h2:fB s i=40
  ·rw[if_pos h2]
   have h3:=fun w hw=>hp (i+1) l w hw (by omega) (by omega) (by omega)
   clear ih hp
   rcases e2:AE (kY (k+1) s) s (i+1) l with ⟨Se,i2,l2⟩
   simp only[e2] at h3
   go_enter Tryz.func222,Tryz.ntmps222
   go_wp2_with (first
    | (go_at_call 300;refine (h3 _ mG.sj).mono ?_;rintro e w3 ⟨rfl,zP⟩)
    | (go_at_call 299;refine (jP hn (by omega)).mono ?_;rintro e w1 ⟨rfl,mG⟩;have a1:=mG.c1;have b1:=mG.fr 1))
   go_ret
   exact ⟨rfl,zP⟩
  rw[if_neg h2]
  clear ih hp
  by_cases h3:fB s i=114
  ·rw[if_pos h3]
   go_enter Tryz.func222,Tryz.ntmps222
   go_wp2_with (first
    | (go_at_call 299;refine (jP hn (by omega)).mono ?_;rintro e w1 ⟨rfl,mG⟩;have a1:=mG.c1;have b1:=mG.fr 1;obtain ⟨v3,d3⟩:=mG.sj.c2;have b3:=mG.fr 2)
    | (at_builtin;refine zO mG.sj (by omega) v3 d3 rfl (.tmp 45) (.tmp 46) rfl rfl _ rfl (by simp) ?_;intro g cap w5 hh;obtain ⟨u5,c5⟩:=hh.c2;have f5:=hh.fr))
   go_ret
   exact ⟨rfl,hh.put⟩
  rw[if_neg h3]
  have YX:=UW (fB s i)
  have YY:=UX (fB s i)
  obtain ⟨sb1,sb2⟩:=EJ (fB s i)
  obtain ⟨rb1,rb2⟩:=EK (fB s i)
  by_cases h4:0<=C8 (fB s i)
  ·rw[if_pos h4]
   go_enter Tryz.func222,Tryz.ntmps222
   go_wp2_with (first
    | (go_at_call 299;refine (jP hn (by omega)).mono ?_;rintro e w1 ⟨rfl,mG⟩;have a1:=mG.c1;have b1:=mG.fr 1;obtain ⟨v3,d3⟩:=mG.sj.c2;have b3:=mG.fr 2)
    | (go_at_call 246;refine (Jp _ _ _).mono ?_;rintro e w2 ⟨rfl,rfl⟩)
    | (at_builtin;refine zO mG.sj (by omega) v3 d3 rfl (.tmp 58) (.tmp 61) rfl rfl _ rfl (by simp) ?_;intro g cap w5 hh;obtain ⟨u5,c5⟩:=hh.c2;have f5:=hh.fr))
   go_ret
   exact ⟨rfl,hh.put⟩
  rw[if_neg h4]
  by_cases h5:xa (fB s i)<0
  ·rw[if_pos h5]
   go_enter Tryz.func222,Tryz.ntmps222
   go_wp2_with (first
    | (go_at_call 299;refine (jP hn (by omega)).mono ?_;rintro e w1 ⟨rfl,mG⟩;have a1:=mG.c1;have b1:=mG.fr 1)
    | (go_at_call 246;refine (Jp _ _ _).mono ?_;rintro e w2 ⟨rfl,rfl⟩))
   go_ret
   exact ⟨rfl,mG.sj⟩
  rw[if_neg h5]
  by_cases h6:fB s (i+1)=43
  ·rw[if_pos h6]
   go_enter Tryz.func222,Tryz.ntmps222
   go_wp2_with (first
    | (go_at_call 299;refine (jP mG.sj (by omega)).mono ?_;rintro e w3 ⟨rfl,zP⟩;have a3:=zP.c1;have e3:=zP.fr 1;obtain ⟨v3,d3⟩:=zP.c2;have b3:=zP.fr 2)
    | (go_at_call 299;refine (jP hn (by omega)).mono ?_;rintro e w1 ⟨rfl,mG⟩;have a1:=mG.c1;have b1:=mG.fr 1)
    | (go_at_call 246;refine (Jp _ _ _).mono ?_;rintro e w2 ⟨rfl,rfl⟩)
    | (at_builtin;refine zO zP.sj (by omega) v3 (Xw d3) rfl (.tmp 83) (.tmp 86) rfl rfl _ rfl (by simp) ?_;intro g cap w5 hh;obtain ⟨u5,c5⟩:=hh.c2;have f5:=hh.fr))
   go_ret
   exact ⟨rfl,hh.put⟩
  ·rw[if_neg h6]
   go_enter Tryz.func222,Tryz.ntmps222
   go_wp2_with (first
    | (go_at_call 299;refine (jP mG.sj (by omega)).mono ?_;rintro e w3 ⟨rfl,zP⟩;obtain ⟨v3,d3⟩:=zP.c2;have b3:=zP.fr 2)
    | (go_at_call 299;refine (jP hn (by omega)).mono ?_;rintro e w1 ⟨rfl,mG⟩;have a1:=mG.c1;have b1:=mG.fr 1)
    | (go_at_call 246;refine (Jp _ _ _).mono ?_;rintro e w2 ⟨rfl,rfl⟩)
    | (at_builtin;refine zO zP (by omega) v3 d3 rfl (.tmp 94) (.tmp 97) rfl rfl _ rfl (by simp) ?_;intro g cap w5 hh;obtain ⟨u5,c5⟩:=hh.c2;have f5:=hh.fr))
   go_ret
   exact ⟨rfl,hh.put⟩
