/- The reader of patterns, walked by hand: next, read, pair. Conditions: as each theorem says. -/
import Derived.Test.YtbmmhdmljajcfaaGreatDoorNoteF
import Derived.Test.YtbmmhdmljajcfaaGreatDoorHand
import Derived.Test.YtbmmhdmljajcfaaGreatDoorShelf
import Derived.Test.YtbmmhdmljajcfaaGreatDoorProg
import Derived.WalkKit
import Derived.Deep.QuietTactic
import Derived.Deep.AppendLies
import Derived.BigQuiet
set_option linter.unusedVariables false
set_option linter.unusedSimpArgs false
namespace Go.Proofs.YtbmmhdmljajcfaaGreatDoor.DR
open Go Go.RowKit Go.Proofs.YtbmmhdmljajcfaaGreatDoor.V
theorem Rr:(Tryz.prog.info? 3).map (fun i=>(i.zero,i.size,i.bytes))=some (some (.int .i64 0),1,8):=by kernel_rfl
set_option maxHeartbeats 4000000 in
theorem Ky {w:World} {N:Nat} {s:ByteArray} {i:Nat} (hi:i<1000) (h0:w.cell? ⟨N,0,none⟩=some (.string s)) (h1:w.cell? ⟨N,1,none⟩=some (.int .i64 (i:Int))):
 Calls Tryz.prog 299 #[.pointer (some ⟨N,0,none⟩)] w fun e w'=>e= .returned (.int .u8 (eY s i))/\ ∃m,w' =w.drewN m:=by
 by_cases h:i<s.size
 ·have fJ:(i:Int)<(s.size:Int):=by omega
  have Vi:(0:Int)<=(i:Int):=by omega
  have hn:eY s i=((s[i]'h).toNat:Int):=by unfold eY;rw[dif_pos h]
  go_enter Tryz.func299,Tryz.ntmps299
  go_wp2_with fail
  go_quiet (fail)
  go_wp2
  go_quiet (fail)
  go_wp2
  go_ret
  exact ⟨by rw[hn];rfl,_,World.drewN_drewN _ _ _⟩
 ·have fJ: ¬(i:Int)<(s.size:Int):=by omega
  have hn:eY s i=0:=by unfold eY;rw[dif_neg h]
  go_enter Tryz.func299,Tryz.ntmps299
  go_wp2_with fail
  go_quiet (fail)
  go_wp2
  go_ret
  exact ⟨by rw[hn];rfl,_,rfl⟩
theorem yv (w:World): ∀m:Nat,(w.drewN m).heap=w.heap/\(w.drewN m).os=w.os/\(w.drewN m).tape=w.tape/\(w.drewN m).output=w.output
 |0=>⟨rfl,rfl,rfl,rfl⟩
 |m+1=>yv w.drew m
structure Nt (W:World) (N:Nat) (s:ByteArray) (i:Nat) (l:List Int) (w:World):Prop where
 ub:Below W.heap.size W w
 le:W.heap.size<=N
 Im: ∃v,w.heap[N]? =some (.cells #[.string s,.int .i64 (i:Int),v] 180 (0,0))/\w.ownsRow (N+1) 3 1 v l.length (l.map (Value.int .i64))
section
variable {W w:World} {N i:Nat} {s:ByteArray} {l:List Int}
theorem Nt.c0 (h:Nt W N s i l w):w.cell? ⟨N,0,none⟩=some (.string s):=by
 obtain ⟨v,hb,_⟩:=h.Im
 rw[bJ hb];rfl
theorem Nt.c1 (h:Nt W N s i l w):w.cell? ⟨N,1,none⟩=some (.int .i64 (i:Int)):=by
 obtain ⟨v,hb,_⟩:=h.Im
 rw[bJ hb];rfl
theorem Nt.c2 (h:Nt W N s i l w): ∃v,w.cell? ⟨N,2,none⟩=some v:=by
 obtain ⟨v,hb,_⟩:=h.Im
 rw[bJ hb];exact ⟨v,rfl⟩
theorem OD {u v:Value} (h:w.cell? ⟨N,2,none⟩=some v):(w.setCell ⟨N,1,none⟩ u).cell? ⟨N,2,none⟩=some v:=by
 rw[World.cell?_setCell_other]
 ·exact h
 ·simp
theorem Nt.fr (h:Nt W N s i l w) (j:Nat):w.frozen? ⟨N,j,none⟩=false:=by
 obtain ⟨v,hb,_⟩:=h.Im
 simp[World.frozen?,hb]
theorem Nt.lt (h:Nt W N s i l w):N<w.heap.size:=by
 obtain ⟨v,hb,_⟩:=h.Im
 exact (Array.getElem?_eq_some_iff.1 hb).1
theorem jK {w w':World} {base e size n:Nat} {v:Value} {xs:List Value} (h:w.ownsRow base e size v n xs) (hb: ∀b,base<=b->b<w.heap.size->w'.heap[b]? =w.heap[b]?):w'.ownsRow base e size v n xs:=by
 refine ⟨h.1,h.2.imp id fun ⟨g,cap,OE,e1,e2,e3,e4⟩=>⟨g,cap,OE,e1,e2,?_,e4⟩⟩
 rw[hb g e2 (Array.getElem?_eq_some_iff.1 e3).1,e3]
theorem Nt.drewN (h:Nt W N s i l w) (m:Nat):Nt W N s i l (w.drewN m):=by
 obtain ⟨v,hb,ho⟩:=h.Im
 obtain ⟨e,e1,e2,e3⟩:=yv w m
 exact ⟨⟨e1.trans h.ub.os,e2.trans h.ub.tape,e3.trans h.ub.output,by rw[e];exact h.ub.size,by rw[e];exact h.ub.block⟩,h.le,v,by rw[e];exact hb,jK ho fun b _ _=>by rw[e]⟩
theorem Nt.mO (h:Nt W N s i l w):Nt W N s (i+1) l (w.setCell ⟨N,1,none⟩ (.int .i64 ((i:Int)+1))):=by
 obtain ⟨v,hb,ho⟩:=h.Im
 refine ⟨h.ub.setCell h.le _,h.le,v,?_,jK ho fun b h1 _=>Below.heap_setCell _ _ _ _ (by show b≠N;omega)⟩
 have hN:=h.lt
 simp only[World.setCell]
 rw[Array.getElem?_modify,if_pos rfl,hb]
 simp
theorem eZ (h:Nt W N s i l w) (hi:i<1000):Calls Tryz.prog 299 #[.pointer (some ⟨N,0,none⟩)] w fun e w'=>e= .returned (.int .u8 (eY s i))/\Nt W N s i l w':=
 (Ky hi h.c0 h.c1).mono fun e w' ⟨he,m,hw⟩=>⟨he,hw ▸ h.drewN m⟩
structure GY (W:World) (N:Nat) (s:ByteArray) (i:Nat) (l:List Int) (v:Value) (w:World):Prop where
 ub:Below W.heap.size W w
 le:W.heap.size<=N
 Im: ∃u,w.heap[N]? =some (.cells #[.string s,.int .i64 (i:Int),u] 180 (0,0))
 own:w.ownsRow (N+1) 3 1 v l.length (l.map (Value.int .i64))
theorem GY.c2 {v:Value} (h:GY W N s i l v w): ∃u,w.cell? ⟨N,2,none⟩=some u:=by
 obtain ⟨u,hb⟩:=h.Im
 rw[bJ hb];exact ⟨u,rfl⟩
theorem GY.fr {v:Value} (h:GY W N s i l v w):w.frozen? ⟨N,2,none⟩=false:=by
 obtain ⟨u,hb⟩:=h.Im
 simp[World.frozen?,hb]
theorem GY.put {v:Value} (h:GY W N s i l v w):Nt W N s i l (w.setCell ⟨N,2,none⟩ v):=by
 obtain ⟨u,hb⟩:=h.Im
 refine ⟨h.ub.setCell h.le _,h.le,v,?_,jK h.own fun b h1 _=>Below.heap_setCell _ _ _ _ (by show b≠N;omega)⟩
 simp only[World.setCell]
 rw[Array.getElem?_modify,if_pos rfl,hb]
 simp
theorem td {ops:Array Oper} {rest:List Oper} {o:Oper} {a:Act} {Q:Exit->Act->World->Prop} {x:Int} (h:Nt W N s i l w) (hl:l.length<1000) (v:Value) (hv:w.cell? ⟨N,2,none⟩=some v) (Mi:o.guard=none) (so xo:Operand)
 (ho:o.op= .call {callee:= .builtin .append,args:= #[so,xo],argTypes:= #[22,22]}) (hs:a.eval so=v) (H:Nat) (hx:a.eval xo= .slice (some ⟨H,0,none⟩) 1 1) (hH:w.heap.size=H)
 (hK: ∀g cap w',GY W N s i (l++[x]) (.slice (some ⟨g,0,none⟩) (l.length+1) cap) w'->wpList Tryz.prog ops Q rest (a.put o.dst (.slice (some ⟨g,0,none⟩) (l.length+1) cap)) w'):wpList Tryz.prog ops Q (o::rest) a (w.alloc (.cells #[.int .i64 x] 3)):=by
 obtain ⟨i0,hi,Wf,Wh,P2⟩:=info_parts Rr
 obtain ⟨v',hb,MO⟩:=h.Im
 have hN:=h.lt
 have:v' =v:=by rw[bJ hb] at hv;simpa using hv
 subst this
 subst hH
 have pF:(w.alloc (.cells #[.int .i64 x] 3)).heap[w.heap.size]? =some (.cells #[.int .i64 x] 3 (0,0)):=heap_alloc_new w _
 refine wpList_append_lies _ Mi so xo 22 ho (N+1) 3 i0 (.int .i64 0) 1 8 Tryz.underlying22 hi Wf Wh P2 rfl (by decide) v' l.length (l.map (Value.int .i64)) hs (jK MO fun b _ fJ=>Below.heap_alloc _ _ _ fJ) ⟨w.heap.size,0,none⟩ 1 1 [.int .i64 x] hx rfl
  (World.news_of_block pF) (fun u hu=>by simp at hu;subst hu;rfl) (by omega) (by unfold maxLen;omega) (by omega) (by simp;omega) _ rfl fun g cap w' Rs Io hg fJ=>hK g cap w' ?_
 have Rt:=MO.lt
 have mg: ∀k,v'.ownBlock=some k->N+1<=k:=fun k hk=>(Rt k hk).1
 refine ⟨(h.ub.alloc h.ub.size _).grown Io (by simp;have:=h.ub.size;omega) fun k hk=>by have:=mg k hk;have:=h.le;omega,h.le,⟨v',?_⟩,?_⟩
 ·rw[Io.block N (by simp;omega) (fun e=>by have:=mg N e.symm;omega),Below.heap_alloc _ _ _ hN]
  exact hb
 ·rw[List.map_append,List.length_append]
  exact Rs
end
theorem Cj (s:ByteArray) (c:Int) (w:World):Calls Tryz.prog 246 #[.string s,.int .u8 c] w fun e w'=>e= .returned (.int .i64 (yw s c))/\w' =w:=Tryz.strings_IndexByte _ c w
theorem MP (c:Int):yw ⟨#[99,100,104,115]⟩ c=Bo c:=rfl
theorem MQ (c:Int):yw ⟨#[50,51,52,53,54,55,56,57,84,74,81,75,65]⟩ c=yx c:=rfl
theorem mP {s:ByteArray} {i:Nat} (h:eY s i≠0):i<s.size:=by
 unfold eY at h
 split at h
 ·assumption
 ·exact absurd rfl h
def Rd (s:ByteArray) (rd:Nat->List Int->Bool×Nat×List Int):Prop:= ∀i l i' l',i<=s.size->rd i l=(true,i',l')->i<=i' /\i' <=s.size/\l'.length+i<=l.length+i'
theorem Kz {rd:Nat->List Int->Bool×Nat×List Int} {s:ByteArray} (h:Rd s rd):Rd s (Bp rd s):=by
 intro i l i' l' hi hr
 unfold Bp at hr
 split at hr
 ·cases hr
 ·rename_i i1 l1 e1
  obtain ⟨g1,g2,g3⟩:=h i l i1 l1 hi e1
  split at hr
  ·rename_i hc
   have fJ:i1<s.size:=mP (by rcases hc with e|e<;>rw[e]<;>decide)
   split at hr
   ·cases hr
   ·rename_i i2 l2 e2
    obtain ⟨k1,k2,k3⟩:=h _ l1 i2 l2 (by omega) e2
    split at hr
    ·rename_i MM
     have OF:i2<s.size:=mP (by rw[MM];decide)
     cases hr
     refine ⟨by omega,by omega,by simp;omega⟩
    ·cases hr
  ·cases hr
theorem yy (s:ByteArray): ∀k,Rd s (lO k s):=by
 intro k
 induction k with
 |zero=>intro i l i' l' _ h;cases h
 |succ k ih=>
  intro i l i' l' hi hr
  unfold lO at hr
  split at hr
  ·cases hr
  rename_i h0
  have fJ:=mP h0
  split at hr
  ·split at hr
   ·cases hr
   ·rename_i i1 l1 e1
    obtain ⟨g1,g2,g3⟩:=ih _ l i1 l1 (by omega) e1
    cases hr
    exact ⟨by omega,g2,by simp;omega⟩
  split at hr
  ·obtain ⟨g1,g2,g3⟩:=Kz ih _ l i' l' (by omega) hr
   exact ⟨by omega,g2,by omega⟩
  split at hr
  ·cases hr;exact ⟨by omega,by omega,by simp;omega⟩
  split at hr
  ·cases hr;exact ⟨by omega,by omega,by simp;omega⟩
  split at hr
  ·cases hr
  split at hr
  ·rename_i Wi
   have OF:i+1<s.size:=mP (by rw[Wi];decide)
   cases hr;exact ⟨by omega,by omega,by simp;omega⟩
  ·cases hr;exact ⟨by omega,by omega,by simp;omega⟩
theorem NZ (l:List UInt8) (c:UInt8):Lib.indexByte l c<=l.length:=by
 induction l with
 |nil=>unfold Lib.indexByte;simp
 |cons b l ih=>
  unfold Lib.indexByte
  split
  ·simp;omega
  ·split
   ·simp;omega
   ·simp only[List.length_cons];omega
theorem KA (c:Int):Bo c<=4/\ -1<=Bo c:=⟨NZ _ _,Lib.indexByte_ge _ _⟩
theorem KB (c:Int):yx c<=13/\ -1<=yx c:=⟨NZ _ _,Lib.indexByte_ge _ _⟩
def Reads (W:World) (N:Nat) (s:ByteArray) (f:FuncId) (k:Nat) (rd:Nat->List Int->Bool×Nat×List Int):Prop:=
 ∀i l w,Nt W N s i l w->i<=s.size->l.length<=i->s.size<=i+k->Calls Tryz.prog f #[.pointer (some ⟨N,0,none⟩)] w fun e w'=>e= .returned (.bool (rd i l).1)/\Nt W N s (rd i l).2.1 (rd i l).2.2 w'
set_option maxHeartbeats 4000000 in
theorem KC {W:World} {N:Nat} {s:ByteArray} {k:Nat} (hs:s.size<=100) {rd:Nat->List Int->Bool×Nat×List Int} (Kf:Rd s rd) (h:Reads W N s 222 k rd):Reads W N s 300 k (Bp rd s):=by
 intro i l w hn hi hl hk
 have c:=h i l w hn hi hl hk
 unfold Bp
 rcases e:rd i l with ⟨ok,i1,l1⟩
 rw[e] at c
 cases ok with
 |false=>
  dsimp only at c ⊢
  go_enter Tryz.func300,Tryz.ntmps300
  go_wp2_with (go_at_call 222;refine c.mono ?_;rintro e1 w1 ⟨rfl,iu⟩)
  go_ret
  exact ⟨rfl,iu⟩
 |true=>
  obtain ⟨g1,g2,g3⟩:=Kf i l i1 l1 hi e
  dsimp only at c ⊢
  by_cases hc:eY s i1=38
  ·rw[if_pos (Or.inl hc)]
   have fJ:i1<s.size:=mP (by rw[hc];decide)
   have h2:=fun w hw=>h (i1+1) l1 w hw (by omega) (by omega) (by omega)
   rcases e2:rd (i1+1) l1 with ⟨N0,i2,l2⟩
   simp only[e2] at h2
   clear h
   cases N0 with
   |false=>
    dsimp only at h2 ⊢
    go_enter Tryz.func300,Tryz.ntmps300
    go_wp2_with (first
     | (go_at_call 222;refine (h2 _ qC.mO).mono ?_;rintro e w3 ⟨rfl,tf⟩)
     | (go_at_call 222;refine c.mono ?_;rintro e1 w1 ⟨rfl,iu⟩)
     | (go_at_call 299;refine (eZ iu (by omega)).mono ?_;rintro e w2 ⟨rfl,qC⟩;have a2:=qC.c1;have b2:=qC.fr 1))
    go_ret
    exact ⟨rfl,tf⟩
   |true=>
    obtain ⟨k1,k2,k3⟩:=Kf _ l1 i2 l2 (by omega) e2
    dsimp only at h2 ⊢
    by_cases Ja:eY s i2=41
    ·rw[if_pos Ja];rw[if_pos hc]
     go_enter Tryz.func300,Tryz.ntmps300
     go_wp2_with (first
      | (go_at_call 222;refine (h2 _ qC.mO).mono ?_;rintro e w3 ⟨rfl,tf⟩)
      | (go_at_call 222;refine c.mono ?_;rintro e1 w1 ⟨rfl,iu⟩)
      | (go_at_call 299;refine (eZ tf (by omega)).mono ?_;rintro e w4 ⟨rfl,DU⟩;have a4:=DU.c1;have b4:=DU.fr 1;obtain ⟨v4,d4⟩:=DU.mO.c2;have b5:=DU.fr 2)
      | (go_at_call 299;refine (eZ iu (by omega)).mono ?_;rintro e w2 ⟨rfl,qC⟩;have a2:=qC.c1;have b2:=qC.fr 1)
      | (at_builtin;refine td DU.mO (by omega) v4 d4 rfl (.tmp 39) (.tmp 41) rfl rfl _ rfl (by simp) ?_;intro g cap w5 hh;obtain ⟨u5,c5⟩:=hh.c2;have f5:=hh.fr))
     go_ret
     exact ⟨rfl,hh.put⟩
    ·rw[if_neg Ja]
     go_enter Tryz.func300,Tryz.ntmps300
     go_wp2_with (first
      | (go_at_call 222;refine (h2 _ qC.mO).mono ?_;rintro e w3 ⟨rfl,tf⟩)
      | (go_at_call 222;refine c.mono ?_;rintro e1 w1 ⟨rfl,iu⟩)
      | (go_at_call 299;refine (eZ tf (by omega)).mono ?_;rintro e w4 ⟨rfl,DU⟩)
      | (go_at_call 299;refine (eZ iu (by omega)).mono ?_;rintro e w2 ⟨rfl,qC⟩;have a2:=qC.c1;have b2:=qC.fr 1))
     go_ret
     exact ⟨rfl,DU⟩
  by_cases MM:eY s i1=124
  ·have Ru:=hc
   replace hc:=MM
   rw[if_pos (Or.inr hc)]
   have fJ:i1<s.size:=mP (by rw[hc];decide)
   have h2:=fun w hw=>h (i1+1) l1 w hw (by omega) (by omega) (by omega)
   rcases e2:rd (i1+1) l1 with ⟨N0,i2,l2⟩
   simp only[e2] at h2
   clear h
   cases N0 with
   |false=>
    dsimp only at h2 ⊢
    go_enter Tryz.func300,Tryz.ntmps300
    go_wp2_with (first
     | (go_at_call 222;refine (h2 _ qC.mO).mono ?_;rintro e w3 ⟨rfl,tf⟩)
     | (go_at_call 222;refine c.mono ?_;rintro e1 w1 ⟨rfl,iu⟩)
     | (go_at_call 299;refine (eZ iu (by omega)).mono ?_;rintro e w2 ⟨rfl,qC⟩;have a2:=qC.c1;have b2:=qC.fr 1))
    go_ret
    exact ⟨rfl,tf⟩
   |true=>
    obtain ⟨k1,k2,k3⟩:=Kf _ l1 i2 l2 (by omega) e2
    dsimp only at h2 ⊢
    by_cases Ja:eY s i2=41
    ·rw[if_pos Ja];rw[if_neg Ru]
     go_enter Tryz.func300,Tryz.ntmps300
     go_wp2_with (first
      | (go_at_call 222;refine (h2 _ qC.mO).mono ?_;rintro e w3 ⟨rfl,tf⟩)
      | (go_at_call 222;refine c.mono ?_;rintro e1 w1 ⟨rfl,iu⟩)
      | (go_at_call 299;refine (eZ tf (by omega)).mono ?_;rintro e w4 ⟨rfl,DU⟩;have a4:=DU.c1;have b4:=DU.fr 1;obtain ⟨v4,d4⟩:=DU.mO.c2;have b5:=DU.fr 2)
      | (go_at_call 299;refine (eZ iu (by omega)).mono ?_;rintro e w2 ⟨rfl,qC⟩;have a2:=qC.c1;have b2:=qC.fr 1)
      | (at_builtin;refine td DU.mO (by omega) v4 d4 rfl (.tmp 39) (.tmp 41) rfl rfl _ rfl (by simp) ?_;intro g cap w5 hh;obtain ⟨u5,c5⟩:=hh.c2;have f5:=hh.fr))
     go_ret
     exact ⟨rfl,hh.put⟩
    ·rw[if_neg Ja]
     go_enter Tryz.func300,Tryz.ntmps300
     go_wp2_with (first
      | (go_at_call 222;refine (h2 _ qC.mO).mono ?_;rintro e w3 ⟨rfl,tf⟩)
      | (go_at_call 222;refine c.mono ?_;rintro e1 w1 ⟨rfl,iu⟩)
      | (go_at_call 299;refine (eZ tf (by omega)).mono ?_;rintro e w4 ⟨rfl,DU⟩)
      | (go_at_call 299;refine (eZ iu (by omega)).mono ?_;rintro e w2 ⟨rfl,qC⟩;have a2:=qC.c1;have b2:=qC.fr 1))
     go_ret
     exact ⟨rfl,DU⟩
  rw[if_neg (by rintro (e|e)<;>contradiction)]
  clear h
  go_enter Tryz.func300,Tryz.ntmps300
  go_wp2_with (first
   | (go_at_call 222;refine c.mono ?_;rintro e1 w1 ⟨rfl,iu⟩)
   | (go_at_call 299;refine (eZ iu (by omega)).mono ?_;rintro e w2 ⟨rfl,qC⟩))
  go_ret
  exact ⟨rfl,qC⟩
set_option maxHeartbeats 8000000 in
set_option maxRecDepth 100000 in
theorem KD {W:World} {N:Nat} {s:ByteArray} (hs:s.size<=100): ∀k,Reads W N s 222 k (lO (k+1) s):=by
 intro k
 induction k with
 |zero=>
  intro i l w hn hi hl hk
  have h0:eY s i=0:=by unfold eY;rw[dif_neg (by omega)]
  unfold lO
  rw[if_pos h0]
  go_enter Tryz.func222,Tryz.ntmps222
  go_wp2_with (go_at_call 299;refine (eZ hn (by omega)).mono ?_;rintro e w1 ⟨rfl,iu⟩;have a1:=iu.c1;have b1:=iu.fr 1)
  go_ret
  exact ⟨rfl,iu.mO⟩
 |succ k ih=>
  intro i l w hn hi hl hk
  have hp:=KC hs (yy s (k+1)) ih
  unfold lO
  by_cases h0:eY s i=0
  ·rw[if_pos h0]
   clear ih hp
   go_enter Tryz.func222,Tryz.ntmps222
   go_wp2_with (go_at_call 299;refine (eZ hn (by omega)).mono ?_;rintro e w1 ⟨rfl,iu⟩;have a1:=iu.c1;have b1:=iu.fr 1)
   go_ret
   exact ⟨rfl,iu.mO⟩
  rw[if_neg h0]
  have fJ:=mP h0
  by_cases h1:eY s i=33
  ·rw[if_pos h1]
   have h2:=fun w hw=>ih (i+1) l w hw (by omega) (by omega) (by omega)
   have h3:=yy s (k+1) (i+1) l
   rcases e2:lO (k+1) s (i+1) l with ⟨N0,i2,l2⟩
   simp only[e2] at h2
   clear ih hp
   cases N0 with
   |false=>
    dsimp only at h2 ⊢
    clear h3
    go_enter Tryz.func222,Tryz.ntmps222
    go_wp2_with (first
     | (go_at_call 222;refine (h2 _ iu.mO).mono ?_;rintro e w3 ⟨rfl,tf⟩)
     | (go_at_call 299;refine (eZ hn (by omega)).mono ?_;rintro e w1 ⟨rfl,iu⟩;have a1:=iu.c1;have b1:=iu.fr 1))
    go_ret
    exact ⟨rfl,tf⟩
   |true=>
    obtain ⟨k1,k2,k3⟩:=h3 i2 l2 (by omega) e2
    clear h3
    dsimp only at h2 ⊢
    go_enter Tryz.func222,Tryz.ntmps222
    go_wp2_with (first
     | (go_at_call 222;refine (h2 _ iu.mO).mono ?_;rintro e w3 ⟨rfl,tf⟩;obtain ⟨v3,d3⟩:=tf.c2;have b3:=tf.fr 2)
     | (go_at_call 299;refine (eZ hn (by omega)).mono ?_;rintro e w1 ⟨rfl,iu⟩;have a1:=iu.c1;have b1:=iu.fr 1)
     | (at_builtin;refine td tf (by omega) v3 d3 rfl (.tmp 28) (.tmp 29) rfl rfl _ rfl (by simp) ?_;intro g cap w5 hh;obtain ⟨u5,c5⟩:=hh.c2;have f5:=hh.fr))
    go_ret
    exact ⟨rfl,hh.put⟩
  rw[if_neg h1]
  by_cases h2:eY s i=40
  ·rw[if_pos h2]
   have h3:=fun w hw=>hp (i+1) l w hw (by omega) (by omega) (by omega)
   clear ih hp
   rcases e2:Bp (lO (k+1) s) s (i+1) l with ⟨N0,i2,l2⟩
   simp only[e2] at h3
   go_enter Tryz.func222,Tryz.ntmps222
   go_wp2_with (first
    | (go_at_call 300;refine (h3 _ iu.mO).mono ?_;rintro e w3 ⟨rfl,tf⟩)
    | (go_at_call 299;refine (eZ hn (by omega)).mono ?_;rintro e w1 ⟨rfl,iu⟩;have a1:=iu.c1;have b1:=iu.fr 1))
   go_ret
   exact ⟨rfl,tf⟩
  rw[if_neg h2]
  clear ih hp
  by_cases h3:eY s i=114
  ·rw[if_pos h3]
   go_enter Tryz.func222,Tryz.ntmps222
   go_wp2_with (first
    | (go_at_call 299;refine (eZ hn (by omega)).mono ?_;rintro e w1 ⟨rfl,iu⟩;have a1:=iu.c1;have b1:=iu.fr 1;obtain ⟨v3,d3⟩:=iu.mO.c2;have b3:=iu.fr 2)
    | (at_builtin;refine td iu.mO (by omega) v3 d3 rfl (.tmp 45) (.tmp 46) rfl rfl _ rfl (by simp) ?_;intro g cap w5 hh;obtain ⟨u5,c5⟩:=hh.c2;have f5:=hh.fr))
   go_ret
   exact ⟨rfl,hh.put⟩
  rw[if_neg h3]
  have XF:=MP (eY s i)
  have XG:=MQ (eY s i)
  obtain ⟨XH,XI⟩:=KA (eY s i)
  obtain ⟨XJ,XK⟩:=KB (eY s i)
  by_cases h4:0<=Bo (eY s i)
  ·rw[if_pos h4]
   go_enter Tryz.func222,Tryz.ntmps222
   go_wp2_with (first
    | (go_at_call 299;refine (eZ hn (by omega)).mono ?_;rintro e w1 ⟨rfl,iu⟩;have a1:=iu.c1;have b1:=iu.fr 1;obtain ⟨v3,d3⟩:=iu.mO.c2;have b3:=iu.fr 2)
    | (go_at_call 246;refine (Cj _ _ _).mono ?_;rintro e w2 ⟨rfl,rfl⟩)
    | (at_builtin;refine td iu.mO (by omega) v3 d3 rfl (.tmp 58) (.tmp 61) rfl rfl _ rfl (by simp) ?_;intro g cap w5 hh;obtain ⟨u5,c5⟩:=hh.c2;have f5:=hh.fr))
   go_ret
   exact ⟨rfl,hh.put⟩
  rw[if_neg h4]
  by_cases h5:yx (eY s i)<0
  ·rw[if_pos h5]
   go_enter Tryz.func222,Tryz.ntmps222
   go_wp2_with (first
    | (go_at_call 299;refine (eZ hn (by omega)).mono ?_;rintro e w1 ⟨rfl,iu⟩;have a1:=iu.c1;have b1:=iu.fr 1)
    | (go_at_call 246;refine (Cj _ _ _).mono ?_;rintro e w2 ⟨rfl,rfl⟩))
   go_ret
   exact ⟨rfl,iu.mO⟩
  rw[if_neg h5]
  by_cases h6:eY s (i+1)=43
  ·rw[if_pos h6]
   go_enter Tryz.func222,Tryz.ntmps222
   go_wp2_with (first
    | (go_at_call 299;refine (eZ iu.mO (by omega)).mono ?_;rintro e w3 ⟨rfl,tf⟩;have a3:=tf.c1;have e3:=tf.fr 1;obtain ⟨v3,d3⟩:=tf.c2;have b3:=tf.fr 2)
    | (go_at_call 299;refine (eZ hn (by omega)).mono ?_;rintro e w1 ⟨rfl,iu⟩;have a1:=iu.c1;have b1:=iu.fr 1)
    | (go_at_call 246;refine (Cj _ _ _).mono ?_;rintro e w2 ⟨rfl,rfl⟩)
    | (at_builtin;refine td tf.mO (by omega) v3 (OD d3) rfl (.tmp 83) (.tmp 86) rfl rfl _ rfl (by simp) ?_;intro g cap w5 hh;obtain ⟨u5,c5⟩:=hh.c2;have f5:=hh.fr))
   go_ret
   exact ⟨rfl,hh.put⟩
  ·rw[if_neg h6]
   go_enter Tryz.func222,Tryz.ntmps222
   go_wp2_with (first
    | (go_at_call 299;refine (eZ iu.mO (by omega)).mono ?_;rintro e w3 ⟨rfl,tf⟩;obtain ⟨v3,d3⟩:=tf.c2;have b3:=tf.fr 2)
    | (go_at_call 299;refine (eZ hn (by omega)).mono ?_;rintro e w1 ⟨rfl,iu⟩;have a1:=iu.c1;have b1:=iu.fr 1)
    | (go_at_call 246;refine (Cj _ _ _).mono ?_;rintro e w2 ⟨rfl,rfl⟩)
    | (at_builtin;refine td tf (by omega) v3 d3 rfl (.tmp 94) (.tmp 97) rfl rfl _ rfl (by simp) ?_;intro g cap w5 hh;obtain ⟨u5,c5⟩:=hh.c2;have f5:=hh.fr))
   go_ret
   exact ⟨rfl,hh.put⟩
end Go.Proofs.YtbmmhdmljajcfaaGreatDoor.DR
