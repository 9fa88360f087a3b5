/- Patterns read, in plain Lean. Conditions: enough rounds, texts of at most 2^20. -/
import Derived.Test.YtbmmhdmljajcfaaGreatDoorKit
import Derived.Test.YtbmmhdmljajcfaaGreatDoorFFnExactStepRules
import Derived.Test.YtbmmhdmljajcfaaGreatDoorPPatText
import Derived.Test.YtbmmhdmljajcfaaGreatDoorVExt
import Derived.Test.YtbmmhdmljajcfaaGreatDoorNote
set_option linter.unusedVariables false
set_option linter.unusedSimpArgs false
namespace Go.Proofs.YtbmmhdmljajcfaaGreatDoor
open Go Go.Proofs.YtbmmhdmljajcfaaGreatDoor.V Go.Proofs.YtbmmhdmljajcfaaGreatDoor.Note
def patRead (s:ByteArray):Bool×Nat×List Int:=nRead (s.size+1) s 0 []
def parsePat (s:ByteArray):List Int×Bool:=bif Nat.ble s.size 100&&(patRead s).1&&((patText (patRead s).2.2).toList==s.toList) then ((patRead s).2.2,true) else ([],false)
theorem nRead_len {s:ByteArray} {n i:Nat} {l:List Int} (hi:i<=s.size) (h:(nRead n s i l).1=true):(nRead n s i l).2.2.length<=l.length+s.size:=by
 have:=nRead_rd s n i l (nRead n s i l).2.1 (nRead n s i l).2.2 hi (by rw[<- h])
 omega
theorem parsePat_len (s:ByteArray):(parsePat s).1.length<1048577:=by
 unfold parsePat
 cases h:(Nat.ble s.size 100&&(patRead s).1&&((patText (patRead s).2.2).toList==s.toList)) with
 |false=>show ([]:List Int).length<_;decide
 |true=>
  simp only[Bool.and_eq_true] at h
  have:=nRead_len (Nat.zero_le _) h.1.2
  have h100:=Nat.le_of_ble_eq_true h.1.1
  show (patRead s).2.2.length<_
  simp only[List.length_nil] at this
  unfold patRead
  omega
theorem impl_ParsePattern.eq {k:Nat} (hk:BIG<=k) {s:ByteArray} (hs:s.size<1048577):impl_ParsePattern.f k s=some (parsePat s):=by
 show parseF (impl_PatternText.f k) s=_
 unfold parseF parsePat
 cases h1:Nat.ble s.size 100 with
 |false=>rfl
 |true=>
  rw[cond_true,Bool.true_and]
  have h100:=Nat.le_of_ble_eq_true h1
  have hl:=nRead_len (s:=s) (n:=s.size+1) (l:=[]) (Nat.zero_le s.size)
  unfold patRead
  revert hl
  rcases nRead (s.size+1) s 0 [] with ⟨ok,i1,l1⟩
  intro hl
  cases ok with
  |false=>rfl
  |true=>
   have:=hl rfl
   refine (bind_s (impl_PatternText.eq hk (by simp at this;omega))).trans ?_
   show (bif _ then _ else _)=some (bif true&&_ then _ else _)
   cases (patText l1).toList==s.toList<;>rfl
theorem sb_next {s:ByteArray} {i:Nat} (h:i<s.size):nNext s i=sb s i:=by
 unfold nNext sb
 rw[dif_pos h]
 have:s.data[i]? =some s[i]:=by
  have h':i<s.data.size:=h
  rw[Array.getElem?_eq_getElem h'];rfl
 rw[this];rfl
theorem sb_byte (s:ByteArray) (i:Nat): ∃b:UInt8,sb s i=(b.toNat:Int):=⟨_,rfl⟩
theorem spec_l9At.loop {R:Type} (k:Nat) {s:ByteArray} (b:UInt8) (hs:s.size<1048577) (e0:Int->Option R) (e1:Option R): ∀(m n i:Nat),i+m=s.size->m<n->
 spec_l9At.l2 k s (b.toNat:Int) e0 e1 n (i:Int)=if Go.Lib.indexByte (s.data.toList.drop i) b= -1 then e1 else e0 ((i:Int)+Go.Lib.indexByte (s.data.toList.drop i) b):=by
 intro m
 induction m with
 |zero=>
  intro n i hi hn
  obtain ⟨n,rfl⟩: ∃j,n=j+1:=⟨n-1,by omega⟩
  rw[spec_l9At.l2_succ]
  unfold spec_l9At.s2
  rw[bif_f (dec_f (by omega)),List.drop_of_length_le (by rw[bytes_len];omega)]
  rfl
 |succ m ih=>
  intro n i hi hn
  obtain ⟨n,rfl⟩: ∃j,n=j+1:=⟨n-1,by omega⟩
  have hlen:i<s.data.toList.length:=by rw[bytes_len];omega
  have hd:s.data.toList.drop i=s.data.toList[i]::s.data.toList.drop (i+1):=List.drop_eq_getElem_cons hlen
  generalize s.data.toList[i] =c at hd
  have hsb:sb s i=(c.toNat:Int):=sb_get hd
  rw[spec_l9At.l2_succ]
  unfold spec_l9At.s2
  rw[bif_t (dec_t (by omega)),chk_t (and_t (dec_t (by omega)) (dec_t (by omega))),show ((i:Int)).toNat=i from Int.toNat_natCast i,hsb,wrap_up (by omega),hd]
  by_cases hc:c=b
  ·subst hc
   refine (bif_t (beq_self_eq_true _)).trans ?_
   unfold Go.Lib.indexByte
   rw[if_pos (beq_self_eq_true _),if_neg (by decide),Int.add_zero]
  ·refine (bif_f (beq_false_of_ne (fun e=>hc (UInt8.toNat_inj.1 (by omega))))).trans ?_
   rw[ih n (i+1) (by omega) (by omega)]
   have hge:=Go.Lib.indexByte_ge (s.data.toList.drop (i+1)) b
   conv=>rhs;unfold Go.Lib.indexByte
   rw[show (c==b)=false from beq_false_of_ne hc]
   by_cases he:Go.Lib.indexByte (s.data.toList.drop (i+1)) b= -1
   ·rw[if_pos he,he];rfl
   ·have e2:(Go.Lib.indexByte (s.data.toList.drop (i+1)) b== -1)=false:=beq_false_of_ne he
    rw[if_neg he,e2]
    show _=if (Go.Lib.indexByte (s.data.toList.drop (i+1)) b+1= -1) then e1 else e0 (_+(Go.Lib.indexByte (s.data.toList.drop (i+1)) b+1))
    rw[if_neg (by omega)]
    congr 1;omega
theorem spec_l9At.eq {k:Nat} (hk:BIG<=k) {s:ByteArray} (b:UInt8) (hs:s.size<1000):spec_l9At.f k s (b.toNat:Int)=some (Go.Lib.indexByte s.data.toList b):=by
 have hB:BIG=1073741824:=rfl
 refine (spec_l9At.loop k b (by omega) _ _ s.size k 0 (by omega) (by omega)).trans ?_
 rw[List.drop_zero]
 by_cases h:Go.Lib.indexByte s.data.toList b= -1
 ·rw[if_pos h,h]
 ·rw[if_neg h];congr 1;omega
theorem suit_of (b:UInt8):suitB (b.toNat:Int)=Go.Lib.indexByte sutB.data.toList b:=by
 show Go.Lib.indexByte _ ((b.toNat:Int)).toNat.toUInt8=_
 rw[Int.toNat_natCast]
 congr 1
 exact UInt8.ofNat_toNat
theorem rank_of (b:UInt8):rankB (b.toNat:Int)=Go.Lib.indexByte rnkB.data.toList b:=by
 show Go.Lib.indexByte _ ((b.toNat:Int)).toNat.toUInt8=_
 rw[Int.toNat_natCast]
 congr 1
 exact UInt8.ofNat_toNat
theorem int_ne {a b:Int} (h: ¬a=b):(a==b)=false:=beq_false_of_ne h
theorem chk_true' {R:Type} {x:Option R}:chk true x=x:=rfl
theorem neq_t {a b:Int} (h: ¬a=b):(a != b)=true:=by simp[h]
theorem l9_read {k:Nat} (hk:BIG<=k) {s:ByteArray} (hs:s.size<=200): ∀(n n' i:Nat) (l:List Int),i<=s.size->s.size<i+n->s.size<i+n'->
 ∃p e,spec_l9Read.g k n' s (i:Int)=some (p,e)/\p.length+i<=s.size/\((nRead n s i l).1=true->(nRead n s i l).2.2=l++p/\e=((nRead n s i l).2.1:Int))/\((nRead n s i l).1=false->e= -1):=by
 intro n
 induction n with
 |zero=>intro n' i l h1 h2 h3;omega
 |succ n ih=>
  intro n' i l hi hn hn'
  obtain ⟨n',rfl⟩: ∃j,n' =j+1:=⟨n' -1,by omega⟩
  show ∃p e,spec_l9Read.b k (spec_l9Read.g k n') s (i:Int)=some (p,e)/\_
  by_cases hlt:i<s.size
  ·have hc:=sb_next hlt
   obtain ⟨b,hb⟩:=sb_byte s i
   have hr:(decide ((0:Int)<=(i:Int))&&decide ((i:Int)<(s.size:Int)))=true:=and_t (dec_t (by omega)) (dec_t (by omega))
   have ht:((i:Int)).toNat=i:=Int.toNat_natCast i
   unfold spec_l9Read.b
   rw[bif_f (dec_f (by omega)),chk_t hr,ht,wrap_up (by omega)]
   by_cases h33:sb s i=33
   ·
    obtain ⟨p,e,h1,h2,h3,h4⟩:=ih n' (i+1) l (by omega) (by omega) (by omega)
    refine ⟨p++[-1],e,?_,by simp;omega,?_⟩
    ·rw[h33]
     refine (bif_t rfl).trans ((bind_s h1).trans ?_)
     exact chk_t (rm8 (by show p.length+1<=_;omega))
    ·unfold nRead
     rw[hc,h33,if_neg (by decide),if_pos rfl]
     revert h3 h4
     rcases nRead n s (i+1) l with ⟨ok,i1,l1⟩
     intro h3 h4
     cases ok with
     |false=>exact ⟨fun h=>(by cases h),fun _=>h4 rfl⟩
     |true=>
      obtain ⟨a1,a2⟩:=h3 rfl
      refine ⟨fun _=>⟨?_,a2⟩,fun h=>(by cases h)⟩
      show l1++[-1] =l++(p++[-1])
      rw[<- List.append_assoc]
      exact congrArg (· ++[-1]) a1
   rw[bif_f (int_ne h33),chk_t hr]
   unfold nRead
   rw[hc]
   by_cases h0:sb s i=0
   ·
    rw[h0,if_pos rfl,show ((0:Int)==40)=false from rfl,cond_false,hr,chk_true',show ((0:Int)==114)=false from rfl,cond_false,chk_true']
    have e1:=spec_l9At.eq hk (s:=sutB) 0 (by decide)
    have e2:=spec_l9At.eq hk (s:=rnkB) 0 (by decide)
    have e1:spec_l9At.f k (⟨#[99,100,104,115]⟩:ByteArray) 0=some (-1):=e1.trans (by decide+kernel)
    have e2:spec_l9At.f k (⟨#[50,51,52,53,54,55,56,57,84,74,81,75,65]⟩:ByteArray) 0=some (-1):=e2.trans (by decide+kernel)
    rw[e1,Option.bind_some,show decide ((-1:Int)>=0)=false from rfl,cond_false,chk_true',e2,Option.bind_some,show decide ((-1:Int)<0)=true from rfl,cond_true]
    exact ⟨[],-1,rfl,by simp;omega,fun h=>(by cases h),fun _=>rfl⟩
   rw[if_neg h0,if_neg h33]
   by_cases h40:sb s i=40
   ·
    rw[if_pos h40,show (sb s i==40)=true by rw[h40];rfl,cond_true]
    obtain ⟨p,e,h1,h2,h3,h4⟩:=ih n' (i+1) l (by omega) (by omega) (by omega)
    have g1:=nRead_rd s n (i+1) l
    unfold nPair
    rw[h1,Option.bind_some]
    dsimp only
    revert h3 h4 g1
    rcases nRead n s (i+1) l with ⟨ok,i1,l1⟩
    intro h3 h4 g1
    cases ok with
    |false=>
     obtain rfl:=h4 rfl
     exact ⟨[],-1,rfl,by simp;omega,fun h=>(by cases h),fun _=>rfl⟩
    |true=>
     obtain ⟨a1,rfl⟩:=h3 rfl
     have a1:l1=l++p:=a1
     obtain ⟨c1,c2,c3⟩:=g1 i1 l1 (by omega) rfl
     have q1:p.length+(i+1)<=i1:=by rw[a1,List.length_append] at c3;omega
     dsimp only
     rw[dec_f (p:=(i1:Int)<0) (by omega),cond_false]
     by_cases hlt1:i1<s.size
     ·have hr1:(decide ((0:Int)<=(i1:Int))&&decide ((i1:Int)<(s.size:Int)))=true:=and_t (dec_t (by omega)) (dec_t (by omega))
      have ht1:((i1:Int)).toNat=i1:=Int.toNat_natCast i1
      have hc1:=sb_next hlt1
      rw[dec_f (p:=(i1:Int)>=(s.size:Int)) (by omega),cond_false,hr1,chk_true',hc1,wrap_up (i:=i1) (by omega)]
      obtain ⟨p',e',k1,k2,k3,k4⟩:=ih n' (i1+1) l1 (by omega) (by omega) (by omega)
      have g2:=nRead_rd s n (i1+1) l1
      revert k3 k4 g2
      rcases nRead n s (i1+1) l1 with ⟨ok2,i2,l2⟩
      intro k3 k4 g2
      by_cases hop:sb s i1=38
      ·rw[if_pos (Or.inl hop)]
       rw[ht1,hop,show ((38:Int) != 38)=false from rfl,cond_false,k1,Option.bind_some]
       dsimp only
       cases ok2 with
       |false=>
        obtain rfl:=k4 rfl
        exact ⟨[],-1,rfl,by simp;omega,fun h=>(by cases h),fun _=>rfl⟩
       |true=>
        obtain ⟨b1,rfl⟩:=k3 rfl
        have b1:l2=l1++p':=b1
        obtain ⟨d1,d2,d3⟩:=g2 i2 l2 (by omega) rfl
        have q2:p'.length+(i1+1)<=i2:=by rw[b1,List.length_append] at d3;omega
        dsimp only
        rw[dec_f (p:=(i2:Int)<0) (by omega),cond_false]
        by_cases hlt2:i2<s.size
        ·have hr2:(decide ((0:Int)<=(i2:Int))&&decide ((i2:Int)<(s.size:Int)))=true:=and_t (dec_t (by omega)) (dec_t (by omega))
         rw[dec_f (p:=(i2:Int)>=(s.size:Int)) (by omega),cond_false,hr2,chk_true',show ((i2:Int)).toNat=i2 from Int.toNat_natCast i2,sb_next hlt2]
         by_cases h41:sb s i2=41
         ·rw[h41,if_pos rfl,show ((41:Int) != 41)=false from rfl,cond_false,chk_true',show ((38:Int)==124)=false from rfl,cond_false,rm8 (by omega),chk_true',rm8 (by rw[List.length_append];omega),chk_true',wrap_up (by omega)]
          exact ⟨_,_,rfl,by simp;omega,fun _=>⟨by rw[b1,a1];simp,rfl⟩,fun h=>(by cases h)⟩
         ·rw[if_neg h41,show (sb s i2 != 41)=true by simp[h41],cond_true]
          exact ⟨[],-1,rfl,by simp;omega,fun h=>(by cases h),fun _=>rfl⟩
        ·rw[dec_t (p:=(i2:Int)>=(s.size:Int)) (by omega),cond_true,show nNext s i2=0 by unfold nNext;rw[dif_neg hlt2],if_neg (by decide)]
         exact ⟨[],-1,rfl,by simp;omega,fun h=>(by cases h),fun _=>rfl⟩
      replace hop:=(⟨hop,trivial⟩: ¬sb s i1=38/\True)
      obtain ⟨hno,_⟩:=hop
      by_cases hop:sb s i1=124
      ·rw[if_pos (Or.inr hop)]
       rw[ht1,hop,show ((124:Int) != 38)=true from rfl,cond_true,chk_true',show ((124:Int) != 124)=false from rfl,cond_false,k1,Option.bind_some]
       dsimp only
       cases ok2 with
       |false=>
        obtain rfl:=k4 rfl
        exact ⟨[],-1,rfl,by simp;omega,fun h=>(by cases h),fun _=>rfl⟩
       |true=>
        obtain ⟨b1,rfl⟩:=k3 rfl
        have b1:l2=l1++p':=b1
        obtain ⟨d1,d2,d3⟩:=g2 i2 l2 (by omega) rfl
        have q2:p'.length+(i1+1)<=i2:=by rw[b1,List.length_append] at d3;omega
        dsimp only
        rw[dec_f (p:=(i2:Int)<0) (by omega),cond_false]
        by_cases hlt2:i2<s.size
        ·have hr2:(decide ((0:Int)<=(i2:Int))&&decide ((i2:Int)<(s.size:Int)))=true:=and_t (dec_t (by omega)) (dec_t (by omega))
         rw[dec_f (p:=(i2:Int)>=(s.size:Int)) (by omega),cond_false,hr2,chk_true',show ((i2:Int)).toNat=i2 from Int.toNat_natCast i2,sb_next hlt2]
         by_cases h41:sb s i2=41
         ·rw[h41,if_pos rfl,show ((41:Int) != 41)=false from rfl,cond_false,chk_true',show ((124:Int)==124)=true from rfl,cond_true,rm8 (by omega),chk_true',rm8 (by rw[List.length_append];omega),chk_true',wrap_up (by omega)]
          exact ⟨_,_,rfl,by simp;omega,fun _=>⟨by rw[b1,a1];simp,rfl⟩,fun h=>(by cases h)⟩
         ·rw[if_neg h41,show (sb s i2 != 41)=true by simp[h41],cond_true]
          exact ⟨[],-1,rfl,by simp;omega,fun h=>(by cases h),fun _=>rfl⟩
        ·rw[dec_t (p:=(i2:Int)>=(s.size:Int)) (by omega),cond_true,show nNext s i2=0 by unfold nNext;rw[dif_neg hlt2],if_neg (by decide)]
         exact ⟨[],-1,rfl,by simp;omega,fun h=>(by cases h),fun _=>rfl⟩
      ·rw[if_neg (by rintro (h|h)<;>contradiction),ht1,neq_t hno,cond_true,chk_true',neq_t hop,cond_true]
       exact ⟨[],-1,rfl,by simp;omega,fun h=>(by cases h),fun _=>rfl⟩
     ·rw[dec_t (p:=(i1:Int)>=(s.size:Int)) (by omega),cond_true,show nNext s i1=0 by unfold nNext;rw[dif_neg hlt1],if_neg (by decide)]
      exact ⟨[],-1,rfl,by simp;omega,fun h=>(by cases h),fun _=>rfl⟩
   rw[if_neg h40,int_ne h40,cond_false,hr,chk_true']
   by_cases h114:sb s i=114
   ·rw[if_pos h114,show (sb s i==114)=true by rw[h114];rfl,cond_true]
    exact ⟨[400],_,rfl,by simp;omega,fun _=>⟨rfl,rfl⟩,fun h=>(by cases h)⟩
   rw[if_neg h114,int_ne h114,cond_false,chk_true',hb,suit_of,rank_of]
   have e1:spec_l9At.f k (⟨#[99,100,104,115]⟩:ByteArray) (b.toNat:Int)=_:=spec_l9At.eq hk (s:=sutB) b (by decide)
   have e2:spec_l9At.f k (⟨#[50,51,52,53,54,55,56,57,84,74,81,75,65]⟩:ByteArray) (b.toNat:Int)=_:=spec_l9At.eq hk (s:=rnkB) b (by decide)
   obtain ⟨r1,r2⟩:=suitB_le (b.toNat:Int)
   obtain ⟨r3,r4⟩:=rankB_le (b.toNat:Int)
   rw[suit_of] at r1 r2
   rw[rank_of] at r3 r4
   rw[e1,Option.bind_some]
   by_cases hsu:0<=Go.Lib.indexByte sutB.data.toList b
   ·rw[if_pos hsu,dec_t (p:=Go.Lib.indexByte sutB.data.toList b>=0) hsu,cond_true,wrap_i64 (by omega) (by omega)]
    exact ⟨_,_,rfl,by simp;omega,fun _=>⟨rfl,rfl⟩,fun h=>(by cases h)⟩
   rw[if_neg hsu,dec_f (p:=Go.Lib.indexByte sutB.data.toList b>=0) hsu,cond_false,chk_true',e2,Option.bind_some]
   by_cases hra:Go.Lib.indexByte rnkB.data.toList b<0
   ·rw[if_pos hra,dec_t hra,cond_true]
    exact ⟨[],-1,rfl,by simp;omega,fun h=>(by cases h),fun _=>rfl⟩
   rw[if_neg hra,dec_f hra,cond_false,wrap_i64 (n:=300+_) (by omega) (by omega),wrap_i64 (n:=200+_) (by omega) (by omega)]
   by_cases hlt2:i+1<s.size
   ·rw[dec_t (p:=((i+1:Nat):Int)<(s.size:Int)) (by omega),cond_true,dec_t (p:=(0:Int)<=((i+1:Nat):Int)) (by omega),Bool.true_and,chk_true',show (((i+1:Nat):Int)).toNat=i+1 from Int.toNat_natCast _,sb_next hlt2]
    by_cases h43:sb s (i+1)=43
    ·rw[if_pos h43,show (sb s (i+1)==43)=true by rw[h43];rfl,cond_true,wrap_i64 (n:=(i:Int)+2) (by omega) (by omega)]
     exact ⟨_,_,rfl,by simp;omega,fun _=>⟨rfl,by show (i:Int)+2=((i+1+1:Nat):Int);omega⟩,fun h=>(by cases h)⟩
    ·rw[if_neg h43,int_ne h43,cond_false]
     exact ⟨_,_,rfl,by simp;omega,fun _=>⟨rfl,rfl⟩,fun h=>(by cases h)⟩
   ·rw[dec_f (p:=((i+1:Nat):Int)<(s.size:Int)) (by omega),cond_false,show nNext s (i+1)=0 by unfold nNext;rw[dif_neg hlt2],if_neg (by decide)]
    exact ⟨_,_,rfl,by simp;omega,fun _=>⟨rfl,rfl⟩,fun h=>(by cases h)⟩
  ·have h0:nNext s i=0:=by unfold nNext;rw[dif_neg hlt]
   unfold nRead
   rw[if_pos h0]
   exact ⟨[],-1,bif_t (dec_t (by omega)),by simp;omega,fun h=>(by cases h),fun _=>rfl⟩
def Rw (s:ByteArray) (rd:Nat->List Int->Bool×Nat×List Int):Prop:= ∀i l i' l',i<=s.size->rd i l=(true,i',l')->(l'.map wtP).sum+i=(l.map wtP).sum+i'
theorem wt_snoc (l:List Int) (a:Int):((l++[a]).map wtP).sum=(l.map wtP).sum+wtP a:=by simp
theorem nPair_rw {rd:Nat->List Int->Bool×Nat×List Int} {s:ByteArray} (h:Rw s rd) (h':Rd s rd): ∀i l i' l',i<=s.size->nPair rd s i l=(true,i',l')->(l'.map wtP).sum+i=(l.map wtP).sum+i' +1:=by
 intro i l i' l' hi hr
 unfold nPair at hr
 split at hr
 ·cases hr
 ·rename_i i1 l1 e1
  have g:=h i l i1 l1 hi e1
  obtain ⟨g1,g2,g3⟩:=h' i l i1 l1 hi e1
  split at hr
  ·rename_i hc
   have hlt:i1<s.size:=nNext_lt (by rcases hc with e|e<;>rw[e]<;>decide)
   split at hr
   ·cases hr
   ·rename_i i2 l2 e2
    have k:=h _ l1 i2 l2 (by omega) e2
    split at hr
    ·cases hr
     rw[wt_snoc]
     have:wtP (if nNext s i1=38 then-2 else-3)=3:=by split<;>rfl
     omega
    ·cases hr
  ·cases hr
theorem nRead_rw (s:ByteArray): ∀k,Rw s (nRead k s):=by
 intro k
 induction k with
 |zero=>intro i l i' l' _ h;cases h
 |succ k ih=>
  intro i l i' l' hi hr
  unfold nRead at hr
  split at hr
  ·cases hr
  rename_i h0
  have hlt:=nNext_lt h0
  obtain ⟨r1,r2⟩:=suitB_le (nNext s i)
  obtain ⟨r3,r4⟩:=rankB_le (nNext s i)
  have r5:rankB (nNext s i)<=12:=by
   obtain ⟨b,hb⟩:=sb_byte s i
   rw[sb_next hlt,hb,rank_of]
   have:=u8_all (p:=fun b=>decide (Go.Lib.indexByte rnkB.data.toList b<=12)) (by decide+kernel) b
   exact of_decide_eq_true this
  split at hr
  ·split at hr
   ·cases hr
   ·rename_i i1 l1 e1
    have g:=ih _ l i1 l1 (by omega) e1
    cases hr
    rw[wt_snoc,show wtP (-1)=1 from rfl];omega
  split at hr
  ·have g:=nPair_rw ih (nRead_rd s k) _ l i' l' (by omega) hr
   omega
  split at hr
  ·cases hr;rw[wt_snoc,show wtP 400=1 from rfl];omega
  split at hr
  ·cases hr
   rename_i hsu
   rw[wt_snoc]
   have:wtP (100+suitB (nNext s i))=1:=by unfold wtP;rw[if_neg (by omega),if_neg (by omega),if_neg (by omega)]
   omega
  split at hr
  ·cases hr
  rename_i hra
  split at hr
  ·cases hr
   rw[wt_snoc]
   have:wtP (300+rankB (nNext s i))=2:=by unfold wtP;rw[if_neg (by omega),if_neg (by omega),if_pos (by omega)]
   omega
  ·cases hr
   rw[wt_snoc]
   have:wtP (200+rankB (nNext s i))=1:=by unfold wtP;rw[if_neg (by omega),if_neg (by omega),if_neg (by omega)]
   omega
theorem spec_ParsePattern.eq {k:Nat} (hk:BIG<=k) {s:ByteArray} (hs:s.size<1048577):spec_ParsePattern.f k s=some (parsePat s):=by
 have hB:BIG=1073741824:=rfl
 unfold spec_ParsePattern.f
 by_cases h200:(s.size:Int)>200
 ·rw[bif_t (dec_t h200)]
  unfold parsePat
  rw[show Nat.ble s.size 100=false from Bool.eq_false_iff.2 (fun e=>by have:=Nat.le_of_ble_eq_true e;omega)];rfl
 rw[bif_f (dec_f h200)]
 obtain ⟨p,e,h1,h2,h3,h4⟩:=l9_read hk (s:=s) (by omega) (s.size+1) k 0 [] (Nat.zero_le _) (by omega) (by omega)
 refine (bind_s h1).trans ?_
 have hw:=nRead_rw s (s.size+1) 0 []
 have hd:=nRead_rd s (s.size+1) 0 []
 have hr:patRead s=nRead (s.size+1) s 0 []:=rfl
 revert h3 h4 hw hd hr
 rcases nRead (s.size+1) s 0 [] with ⟨ok,i1,l1⟩
 intro h3 h4 hw hd hr
 have hfail: ∀ {X:Option (List Int×Bool)},((patText (patRead s).2.2).toList==s.toList)=false\/(patRead s).1=false->(some ([],false):Option (List Int×Bool))=some (parsePat s):=fun {X} h=>by
  unfold parsePat
  rcases h with h|h
  ·rw[h,Bool.and_false];rfl
  ·rw[h,Bool.and_false,Bool.false_and];rfl
 cases ok with
 |false=>
  obtain rfl:=h4 rfl
  have hf:=hfail (X:=none) (.inr (by rw[hr]))
  cases s.toList==ByteArray.empty.toList with
  |true=>exact (bif_t rfl).trans hf
  |false=>exact (bif_f rfl).trans ((bif_t (neq_t (by show ¬(-1:Int)=(s.size:Int);omega))).trans hf)
 |true=>
  obtain ⟨a1,rfl⟩:=h3 rfl
  have a1:l1=p:=a1
  subst a1
  obtain ⟨d1,d2,d3⟩:=hd i1 l1 (Nat.zero_le _) rfl
  have w1:=hw i1 l1 (Nat.zero_le _) rfl
  have hpos:0<s.size:=by
   rcases Nat.eq_zero_or_pos s.size with hz|hz
   ·exfalso
    have:patRead s=(false,1,[]):=by
     unfold patRead nRead
     rw[show nNext s 0=0 by unfold nNext;rw[dif_neg (by omega)],if_pos rfl]
    rw[hr] at this
    cases this
   ·exact hz
  have hne:(s.toList==ByteArray.empty.toList)=false:=by
   rw[bytes_eq_iff]
   exact dec_f fun e=>by
    have:s.size=0:=by rw[<- bytes_len,e];rfl
    omega
  refine (bif_f hne).trans ?_
  simp only[List.map_nil,List.sum_nil] at w1
  simp only[List.length_nil] at d3
  by_cases hi:i1=s.size
  ·subst hi
   refine (bif_f (by simp)).trans ((bind_s (spec_PatternText.eq hk (l:=l1) (by omega))).trans ?_)
   cases ht:(patText l1).toList==s.toList with
   |false=>exact (bif_t rfl).trans (hfail (X:=none) (.inl (by rw[hr];exact ht)))
   |true=>
    refine (bif_f rfl).trans ?_
    have hsz:s.size<=60:=by
     rw[bytes_eq_iff] at ht
     have:=congrArg List.length (of_decide_eq_true ht)
     rw[bytes_len,bytes_len] at this
     have:=patText_le l1
     omega
    unfold parsePat
    rw[hr,show Nat.ble s.size 100=true from Nat.ble_eq_true_of_le (by omega)]
    show _=some (bif true&&true&&((patText l1).toList==s.toList) then (l1,true) else ([],false))
    rw[ht];rfl
  ·refine (bif_t (neq_t (by show ¬(i1:Int)=(s.size:Int);omega))).trans (hfail (X:=none) (.inl ?_))
   rw[hr,bytes_eq_iff]
   refine dec_f fun e=> ?_
   have e:=congrArg List.length e
   rw[bytes_len,bytes_len] at e
   have e:(patText l1).size=s.size:=e
   cases hp:isPattern l1 with
   |true=>rw[patText_size hp] at e;omega
   |false=>
    unfold patText at e
    rw[hp] at e
    have e:ByteArray.empty.size=s.size:=e
    have:ByteArray.empty.size=0:=rfl
    omega
end Go.Proofs.YtbmmhdmljajcfaaGreatDoor
