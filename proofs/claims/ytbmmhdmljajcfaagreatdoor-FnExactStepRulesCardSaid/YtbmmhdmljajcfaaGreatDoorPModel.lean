/- Games of getting rid of cards, in plain Lean: moves, replays, games played to their end; what moves keep. Conditions: none. -/
import Derived.Test.YtbmmhdmljajcfaaGreatDoorKit
import Derived.Test.YtbmmhdmljajcfaaGreatDoorFFnExactStepRules
import Derived.Test.YtbmmhdmljajcfaaGreatDoorPPerm
import Derived.Test.YtbmmhdmljajcfaaGreatDoorPSorted
import Derived.Test.YtbmmhdmljajcfaaGreatDoorPRules
import Derived.Test.YtbmmhdmljajcfaaGreatDoorPMatch
set_option linter.unusedVariables false
set_option linter.unusedSimpArgs false
namespace Go.Proofs.YtbmmhdmljajcfaaGreatDoor
open Go Go.Proofs.YtbmmhdmljajcfaaGreatDoor.V
theorem insI_perm (v:List Int) (c:Int):(insI v c).Perm (c::v):=by
 unfold insI
 have h:(v.take (posF c v v.length)++c::v.drop (posF c v v.length)).Perm (c::(v.take (posF c v v.length)++v.drop (posF c v v.length))):=List.perm_middle
 rwa [List.take_append_drop] at h
theorem foldI_perm: ∀(l b:List Int),(l.foldl insI b).Perm (b++l)
 | [],b=>by simp
 |a::l,b=>by
  rw[List.foldl_cons]
  refine (foldI_perm l (insI b a)).trans (((insI_perm b a).append_right l).trans ?_)
  exact (List.perm_middle (l₁:=b) (a:=a) (l₂:=l)).symm
theorem sortedI_perm (l:List Int):(sortedI l).Perm l:=foldI_perm l []
theorem sortedI_len (l:List Int):(sortedI l).length=l.length:=(sortedI_perm l).length_eq
structure Rl where
 n:Int
 e:Int
 b1:Bool
 b2:Bool
 w:List Int
 f:List Int
 t:Int
 l:Int
def Rl.ok (r:Rl):Bool:=isRules r.n r.e r.b1 r.b2 r.w r.f r.t r.l
abbrev Rl.sm (r:Rl):Prop:=r.w.length<1048577/\r.f.length<1048577
structure Gm where
 r:Rl
 hs:List (List Int)
 st:List Int
 hp:List Int
 tn:Int
 mv:Int
 ps:Int
abbrev Rl.ap {β:Type} (F:Int->Int->Bool->Bool->List Int->List Int->Int->Int->β) (r:Rl):β:=F r.n r.e r.b1 r.b2 r.w r.f r.t r.l
abbrev Rl.tp (r:Rl):Int×Int×Bool×Bool×List Int×List Int×Int×Int:=(r.n,r.e,r.b1,r.b2,r.w,r.f,r.t,r.l)
abbrev Gm.ap {β:Type} (F:Int->Int->Bool->Bool->List Int->List Int->Int->Int->List (List Int)->List Int->List Int->Int->Int->Int->β) (g:Gm):β:=F g.r.n g.r.e g.r.b1 g.r.b2 g.r.w g.r.f g.r.t g.r.l g.hs g.st g.hp g.tn g.mv g.ps
abbrev Gm.tp (g:Gm):Int×Int×Bool×Bool×List Int×List Int×Int×Int×List (List Int)×List Int×List Int×Int×Int×Int:=(g.r.n,g.r.e,g.r.b1,g.r.b2,g.r.w,g.r.f,g.r.t,g.r.l,g.hs,g.st,g.hp,g.tn,g.mv,g.ps)
abbrev Gm.tpb (g:Gm) (b:Bool):Int×Int×Bool×Bool×List Int×List Int×Int×Int×List (List Int)×List Int×List Int×Int×Int×Int×Bool:=(g.r.n,g.r.e,g.r.b1,g.r.b2,g.r.w,g.r.f,g.r.t,g.r.l,g.hs,g.st,g.hp,g.tn,g.mv,g.ps,b)
abbrev smI (l:List Int):Prop:=l.length<1048577
abbrev smII (l:List (List Int)):Prop:=l.length<1048577/\ ∀y∈l,y.length<1048577
abbrev Gm.sm (g:Gm):Prop:=g.r.sm/\smII g.hs/\smI g.st/\smI g.hp
theorem rl_ok {r:Rl} (h:r.ok=true):(2<=r.n/\r.n<=6)/\(1<=r.e/\r.e<=8)/\(1<=r.t/\r.t<=4)/\(1<=r.l/\r.l<=400):=by
 unfold Rl.ok isRules at h
 simp only[Bool.and_eq_true] at h
 exact ⟨inR_iff.1 h.1.1.1.1.1.1,inR_iff.1 h.1.1.1.1.1.2,inR_iff.1 h.1.2,inR_iff.1 h.2⟩
def isGame (g:Gm):Bool:=g.r.ok&&((g.hs.length:Int)==g.r.n)&&whole (g.hs++[g.st,g.hp])&&decide (0<g.hp.length)&&inR g.tn 0 (g.r.n-1)&&inR g.mv 0 g.r.l&&inR g.ps 0 g.mv
theorem isGame_iff {g:Gm}:isGame g=true↔g.r.ok=true/\(g.hs.length:Int)=g.r.n/\whole (g.hs++[g.st,g.hp])=true/\0<g.hp.length/\(0<=g.tn/\g.tn<=g.r.n-1)/\(0<=g.mv/\g.mv<=g.r.l)/\(0<=g.ps/\g.ps<=g.mv):=by
 unfold isGame
 simp only[Bool.and_eq_true,beq_iff_eq,decide_eq_true_eq,inR_iff,and_assoc]
theorem isGame_flat (g:Gm):(g.hs++[g.st,g.hp]).flatten=g.hs.flatten++(g.st++g.hp):=by simp
theorem isGame_len {g:Gm} (h:isGame g=true):g.hs.length<=6/\(∀y∈g.hs,y.length<=52)/\g.st.length<=52/\g.hp.length<=52:=by
 obtain ⟨h1,h2,h3,h4,_⟩:=isGame_iff.1 h
 have hr:=rl_ok h1
 have hl:=whole_len h3
 rw[isGame_flat,List.length_append,List.length_append] at hl
 exact ⟨by omega,fun y hy=>by have:=len_flat hy;omega,by omega,by omega⟩
def firstE:Int->List (List Int)->Int
 |_,[]=> -1
 |i,h::l=>bif ((h.length:Int)==0) then i else firstE (i+1) l
def winner (g:Gm):Int:=bif isGame g then firstE 0 g.hs else-1
def overG (g:Gm):Bool:=decide (firstE 0 g.hs>=0)||(g.mv==g.r.l)||decide (g.ps>=g.r.n)
def isEnded (g:Gm):Bool:=isGame g&&overG g
def fits (r:Rl) (top c:Int):Bool:=r.ok&&isCard top&&isCard c&&((r.b1&&(suitOf c==suitOf top))||(r.b2&&(rankOf c==rankOf top))||matchB r.w c)
def doesSkip (r:Rl) (c:Int):Bool:=r.ok&&matchB r.f c
def Gm.hand (g:Gm):List Int:=g.hs.getD g.tn.toNat []
def Gm.top (g:Gm):Int:=g.hp.getD (g.hp.length-1) 0
def playable (g:Gm):List Int:=bif isGame g&& !overG g then (sortedI g.hand).filter (fits g.r g.top) else []
theorem playable_mem {g:Gm} {c:Int} (h:hasCard (playable g) c=true):isGame g=true/\overG g=false/\c∈g.hand/\isCard c=true:=by
 rw[hasCard_iff] at h
 unfold playable at h
 cases h1:isGame g<;>rw[h1] at h
 ·simp at h
 ·cases h2:overG g<;>rw[h2] at h
  ·simp only[Bool.not_false,Bool.and_self,cond_true,List.mem_filter] at h
   refine ⟨rfl,rfl,(sortedI_perm _).mem_iff.1 h.1,?_⟩
   have:=h.2
   unfold fits at this
   simp only[Bool.and_eq_true] at this
   exact this.1.2
  ·simp at h
theorem playable_len (g:Gm):(playable g).length<=52:=by
 unfold playable
 cases h1:isGame g with
 |false=>simp
 |true=>
  cases h2:overG g with
  |true=>simp
  |false=>
   simp only[Bool.not_false,Bool.and_self,cond_true]
   refine Nat.le_trans (List.length_filter_le _ _) ?_
   rw[sortedI_len]
   have:=isGame_len h1
   unfold Gm.hand
   by_cases ht:g.tn.toNat<g.hs.length
   ·rw[getD_lt _ ht];exact this.2.1 _ (List.getElem_mem ht)
   ·rw[List.getD_eq_getElem?_getD,List.getElem?_eq_none (by omega)];simp
def playOn (g:Gm) (c:Int):Gm×Bool:=
 bif hasCard (playable g) c then
  ({g with hs:=g.hs.set g.tn.toNat (without g.hand c),hp:=g.hp++[c],mv:=g.mv+1,ps:=0,tn:=(g.tn+(bif doesSkip g.r c then 2 else 1)).tmod g.r.n},true)
 else (g,false)
def takeN (t:Nat):Nat->List (List Int)->List Int->List Int->Nat->List (List Int)×List Int×List Int×Nat
 |0,hs,st,hp,n=>(hs,st,hp,n)
 |m+1,hs,st,hp,n=>
  match (bif ((st.length:Int)==0) then hp.take (hp.length-1) else st),(bif ((st.length:Int)==0) then hp.drop (hp.length-1) else hp) with
  | [],hp1=>(hs,[],hp1,n)
  |c::st2,hp1=>takeN t m (hs.set t (hs.getD t []++[c])) st2 hp1 (n+1)
def takeCards (g:Gm):Gm×Bool:=
 bif isGame g&& !overG g then
  let q:=takeN g.tn.toNat g.r.t.toNat g.hs g.st g.hp 0
  ({g with hs:=q.1,st:=q.2.1,hp:=q.2.2.1,mv:=g.mv+1,ps:=bif q.2.2.2==0 then g.ps+1 else 0,tn:=(g.tn+1).tmod g.r.n},true)
 else (g,false)
def replayMove (g:Gm) (m:Int):Gm×Bool:=bif m== -1 then takeCards g else playOn g m
def replayed:List Int->Int->Gm->Gm×Int
 | [],i,g=>(g,i)
 |m::l,i,g=>bif (replayMove g m).2 then replayed l (i+1) (replayMove g m).1 else (g,i)
theorem tmod_range {a n:Int} (h0:0<=a) (hn:1<=n):0<=a.tmod n/\a.tmod n<=n-1:=by
 rw[Int.tmod_eq_emod_of_nonneg h0]
 have h1:=Int.emod_nonneg a (b:=n) (by omega)
 have h2:=Int.emod_lt_of_pos a (b:=n) (by omega)
 omega
theorem overG_mv {g:Gm} (h:isGame g=true) (ho:overG g=false):g.mv+1<=g.r.l:=by
 obtain ⟨_,_,_,_,_,h6,_⟩:=isGame_iff.1 h
 unfold overG at ho
 simp only[Bool.or_eq_false_iff] at ho
 have:=ho.1.2
 simp at this
 omega
theorem perm_swap3 (a b c:List Int):(a++b++c).Perm (a++c++b):=by
 rw[List.append_assoc,List.append_assoc]
 exact List.Perm.append_left _ List.perm_append_comm
theorem playOn_game {g:Gm} {c:Int} (h:(playOn g c).2=true):isGame (playOn g c).1=true/\(playOn g c).1.mv=g.mv+1/\(playOn g c).1.r=g.r:=by
 unfold playOn at h ⊢
 cases hc:hasCard (playable g) c with
 |false=>rw[hc] at h;cases h
 |true=>
  obtain ⟨h1,h2,h3,h4⟩:=playable_mem hc
  obtain ⟨g1,g2,g3,g4,g5,g6,g7⟩:=isGame_iff.1 h1
  have hr:=rl_ok g1
  have ht:g.tn.toNat<g.hs.length:=by omega
  simp only[cond_true]
  refine ⟨isGame_iff.2 ⟨g1,by simpa using g2,?_,by simp,?_,⟨by show 0<=g.mv+1;omega,overG_mv h1 h2⟩,⟨by simp,by show (0:Int)<=g.mv+1;omega⟩⟩,trivial,trivial⟩
  ·rw[<- g3]
   refine whole_perm ?_
   rw[isGame_flat,isGame_flat]
   have hh:g.hand=g.hs[g.tn.toNat]:=getD_lt _ ht
   obtain ⟨q,q1,q2⟩:=flat_set g.hs g.tn.toNat (without g.hand c) ht
   have nd:g.hand.Nodup:=by
    have:=whole_nodup g3
    rw[isGame_flat] at this
    have:=(List.nodup_append.1 this).1
    have:=(q1.nodup_iff).1 this
    rw[hh]
    exact (List.nodup_append.1 this).1
   refine (q2.append_right _).trans (List.Perm.trans ?_ (q1.append_right _).symm)
   rw[<- hh]
   have hw:=(without_perm nd h3).symm
   have e:without g.hand c++q++(g.st++(g.hp++[c]))=(without g.hand c++(q++(g.st++g.hp)))++[c]:=by simp
   have e2:g.hand++q++(g.st++g.hp)=g.hand++(q++(g.st++g.hp)):=by simp
   rw[e,e2]
   refine List.Perm.trans ?_ (hw.append_right _)
   exact perm_swap3 _ _ _
  ·refine tmod_range ?_ (by omega)
   show 0<=g.tn+_
   cases doesSkip g.r c<;>simp only[cond_true,cond_false]<;>omega
theorem takeN_keeps (t:Nat): ∀(m:Nat) (hs:List (List Int)) (st hp:List Int) (n:Nat),t<hs.length->0<hp.length->
 ((takeN t m hs st hp n).1.flatten++((takeN t m hs st hp n).2.1++(takeN t m hs st hp n).2.2.1)).Perm (hs.flatten++(st++hp))/\0<(takeN t m hs st hp n).2.2.1.length/\(takeN t m hs st hp n).1.length=hs.length/\n<=(takeN t m hs st hp n).2.2.2
 |0,hs,st,hp,n,ht,hh=>⟨List.Perm.refl _,hh,rfl,Nat.le_refl _⟩
 |m+1,hs,st,hp,n,ht,hh=>by
  have key: ∀(st1 hp1:List Int),(st1++hp1).Perm (st++hp)->0<hp1.length->
   (let q:=(match st1,hp1 with
     | [],hp1=>(hs,[],hp1,n)
     |c::st2,hp1=>takeN t m (hs.set t (hs.getD t []++[c])) st2 hp1 (n+1):List (List Int)×List Int×List Int×Nat)
   (q.1.flatten++(q.2.1++q.2.2.1)).Perm (hs.flatten++(st++hp))/\0<q.2.2.1.length/\q.1.length=hs.length/\n<=q.2.2.2):=by
   intro st1 hp1 h1 h2
   cases st1 with
   |nil=>exact ⟨List.Perm.append_left _ h1,h2,rfl,Nat.le_refl _⟩
   |cons c st2=>
    obtain ⟨k1,k2,k3,k4⟩:=takeN_keeps t m (hs.set t (hs.getD t []++[c])) st2 hp1 (n+1) (by simpa using ht) h2
    refine ⟨k1.trans ?_,k2,by simpa using k3,Nat.le_of_succ_le k4⟩
    obtain ⟨q,q1,q2⟩:=flat_set hs t (hs.getD t []++[c]) ht
    refine (q2.append_right _).trans (List.Perm.trans ?_ ((List.Perm.append_left _ h1).trans (List.Perm.refl _)))
    refine List.Perm.trans ?_ (q1.append_right _).symm
    rw[getD_lt _ ht]
    have e1:hs[t]++[c]++q++(st2++hp1)=hs[t]++([c]++(q++(st2++hp1))):=by simp
    have e2:hs[t]++q++(c::st2++hp1)=hs[t]++(q++([c]++(st2++hp1))):=by simp
    rw[e1,e2]
    exact List.Perm.append_left _ (List.perm_append_comm_assoc _ _ _)
  unfold takeN
  cases he:((st.length:Int)==0) with
  |false=>exact key st hp (List.Perm.refl _) hh
  |true=>
   have:st=[]:=by
    have h0:(st.length:Int)=0:=by simpa using he
    exact List.length_eq_zero_iff.1 (by omega)
   subst this
   refine key _ _ ?_ (by simp only[cond_true,List.length_drop];omega)
   simp only[cond_true,List.take_append_drop,List.nil_append]
   exact List.Perm.refl _
theorem takeCards_game {g:Gm} (h:(takeCards g).2=true):isGame (takeCards g).1=true/\(takeCards g).1.mv=g.mv+1/\(takeCards g).1.r=g.r:=by
 unfold takeCards at h ⊢
 cases h1:isGame g with
 |false=>rw[h1] at h;cases h
 |true=>
  cases h2:overG g with
  |true=>rw[h1,h2] at h;cases h
  |false=>
   obtain ⟨g1,g2,g3,g4,g5,g6,g7⟩:=isGame_iff.1 h1
   have hr:=rl_ok g1
   have ht:g.tn.toNat<g.hs.length:=by omega
   obtain ⟨k1,k2,k3,k4⟩:=takeN_keeps g.tn.toNat g.r.t.toNat g.hs g.st g.hp 0 ht g4
   simp only[Bool.not_false,Bool.and_self,cond_true]
   refine ⟨isGame_iff.2 ⟨g1,by show ((takeN _ _ _ _ _ _).1.length:Int)=_;rw[k3];exact g2,?_,k2,tmod_range (by show 0<=g.tn+1;omega) (by omega),⟨by show 0<=g.mv+1;omega,overG_mv h1 h2⟩,?_⟩,trivial,trivial⟩
   ·rw[<- g3]
    refine whole_perm ?_
    rw[isGame_flat,isGame_flat]
    exact k1
   ·show 0<=(bif _ then _ else _)/\(bif _ then _ else _)<=g.mv+1
    cases ((takeN g.tn.toNat g.r.t.toNat g.hs g.st g.hp 0).2.2.2==0)<;>simp only[cond_true,cond_false]<;>omega
theorem replayMove_game {g:Gm} {c:Int} (h:(replayMove g c).2=true):isGame (replayMove g c).1=true/\(replayMove g c).1.mv=g.mv+1/\(replayMove g c).1.r=g.r:=by
 unfold replayMove at h ⊢
 cases hc:(c== -1) with
 |true=>rw[hc] at h;exact takeCards_game h
 |false=>rw[hc] at h;exact playOn_game h
theorem takeCards_no {g:Gm} (h:(takeCards g).2=false):(takeCards g).1=g:=by
 unfold takeCards at h ⊢
 cases h1:(isGame g&& !overG g) with
 |false=>rfl
 |true=>rw[h1] at h;cases h
theorem playOn_no {g:Gm} {c:Int} (h:(playOn g c).2=false):(playOn g c).1=g:=by
 unfold playOn at h ⊢
 cases hc:hasCard (playable g) c with
 |false=>rfl
 |true=>rw[hc] at h;cases h
theorem replayMove_no {g:Gm} {c:Int} (h:(replayMove g c).2=false):(replayMove g c).1=g:=by
 unfold replayMove at h ⊢
 cases hc:(c== -1) with
 |true=>rw[hc] at h;exact takeCards_no h
 |false=>rw[hc] at h;exact playOn_no h
theorem isGame_sm {g:Gm} (h:isGame g=true) (hr:g.r.sm):g.sm:=by
 obtain ⟨h1,h2,h3,h4⟩:=isGame_len h
 exact ⟨hr,⟨by omega,fun y hy=>by have:=h2 y hy;omega⟩,by show g.st.length<_;omega,by show g.hp.length<_;omega⟩
theorem replayMove_sm {g:Gm} {c:Int} (h:g.sm):(replayMove g c).1.sm:=by
 cases hm:(replayMove g c).2 with
 |true=>
  obtain ⟨h1,_,h3⟩:=replayMove_game hm
  exact isGame_sm h1 (by rw[h3];exact h.1)
 |false=>rw[replayMove_no hm];exact h
end Go.Proofs.YtbmmhdmljajcfaaGreatDoor
