/- Numbers as text. Conditions: enough rounds, lists of at most 2^20. -/
import Derived.Test.YtbmmhdmljajcfaaGreatDoorKit
import Derived.Test.YtbmmhdmljajcfaaGreatDoorFFnExactStepRules
import Derived.Test.YtbmmhdmljajcfaaGreatDoorPJoin
import Derived.Test.YtbmmhdmljajcfaaGreatDoorVExt
set_option linter.unusedVariables false
set_option linter.unusedSimpArgs false
namespace Go.Proofs.YtbmmhdmljajcfaaGreatDoor
open Go Go.Proofs.YtbmmhdmljajcfaaGreatDoor.V
def digs (u:Nat):List UInt8:=if u=0 then [] else Go.Lib.decDigits u
theorem digs_pos {u:Nat} (h:0<u):digs u=Go.Lib.decDigits u:=by unfold digs;rw[if_neg (by omega)]
theorem digs_step {u:Nat} (h:0<u):digs u=digs (u/10)++[UInt8.ofNat (48+u%10)]:=by
 rw[digs_pos h]
 by_cases h10:u<10
 ·rw[Go.Lib.decDigits_one h10,show u/10=0 by omega,Nat.mod_eq_of_lt h10];rfl
 ·rw[digs_pos (u:=u/10) (by omega)]
  conv=>lhs;rw[Go.Lib.decDigits,dif_neg h10]
theorem digs_len: ∀(m u:Nat),u<10^m->(digs u).length<=m
 |0,u,h=>by
  have:u=0:=by simpa using h
  subst this;exact Nat.zero_le _
 |m+1,u,h=>by
  rcases Nat.eq_zero_or_pos u with e|e
  ·subst e;exact Nat.zero_le _
  ·rw[Nat.pow_succ] at h
   have:=digs_len m (u/10) (by omega)
   rw[digs_step e,List.length_append,List.length_singleton]
   omega
theorem wf64 {n:Int} (h:wfI .i64 n): -9223372036854775808<=n/\n<=9223372036854775807:=by
 simpa[wfI,Lit.wf,IntKind.min,IntKind.max,IntKind.signed,IntKind.bits] using h
theorem u8_digit {d:Nat} (h:d<10):strOf [IntKind.wrap .u8 (IntKind.wrap .i64 (48+(d:Int)))] =⟨#[UInt8.ofNat (48+d)]⟩:=by
 have:d=0\/d=1\/d=2\/d=3\/d=4\/d=5\/d=6\/d=7\/d=8\/d=9:=by omega
 rcases this with rfl|rfl|rfl|rfl|rfl|rfl|rfl|rfl|rfl|rfl<;>rfl
theorem tmod10 (x:Int):x.tmod 10=((x.natAbs%10:Nat):Int)\/x.tmod 10= -((x.natAbs%10:Nat):Int):=by
 rcases Int.natAbs_eq x with h|h
 ·left;rw[h];rfl
 ·right;rw[h,Int.neg_tmod,Int.natAbs_neg];rfl
theorem ba_of_append (l:List UInt8) (x:UInt8) (v:ByteArray):(⟨(l++[x]).toArray⟩:ByteArray)++v=(⟨l.toArray⟩:ByteArray)++((⟨#[x]⟩:ByteArray)++v):=ba_ext (by
 rw[ba_append,ba_append,ba_append]
 simp)
theorem spec_FormatInt.loop {R:Type} (k:Nat) (e0:ByteArray->Option R): ∀(m n:Nat) (x:Int) (v:ByteArray),x.natAbs<10^m->x.natAbs<=9223372036854775808->m<n->v.size+m<=40->spec_FormatInt.l5 k e0 n v x=e0 ((⟨(digs x.natAbs).toArray⟩:ByteArray)++v)
 |m,0,x,v,_,_,hn,_=>absurd hn (by omega)
 |m,n+1,x,v,hx,hb,hn,hv=>by
  by_cases h0:x=0
  ·subst h0
   refine (spec_FormatInt.l5_succ ..).trans ((bif_f rfl).trans (congrArg e0 (ba_ext ?_)))
   rw[ba_append];rfl
  ·have hpos:0<x.natAbs:=by omega
   cases m with
   |zero=>simp at hx;omega
   |succ m=>
    have hne:(x != 0)=true:=by simpa using h0
    have hq:(x.tdiv 10).natAbs=x.natAbs/10:=by rw[Int.natAbs_tdiv];rfl
    have hr:x.natAbs%10<10:=Nat.mod_lt _ (by omega)
    rw[Nat.pow_succ] at hx
    have ih:=spec_FormatInt.loop k e0 m n (x.tdiv 10) ((⟨#[UInt8.ofNat (48+x.natAbs%10)]⟩:ByteArray)++v) (by omega) (by omega) (by omega) (by rw[ByteArray.size_append];show 1+v.size+m<=40;omega)
    have ew:IntKind.wrap .i64 (x.tdiv 10)=x.tdiv 10:=wrap_i64 (by omega) (by omega)
    have hsz:(⟨#[UInt8.ofNat (48+x.natAbs%10)]⟩:ByteArray).size+v.size<=maxI:=by show 1+v.size<=9223372036854775807;omega
    have fin:spec_FormatInt.l5 k e0 n ((⟨#[UInt8.ofNat (48+x.natAbs%10)]⟩:ByteArray)++v) (x.tdiv 10)=e0 ((⟨(digs x.natAbs).toArray⟩:ByteArray)++v):=by
     rw[ih,digs_step hpos,ba_of_append,hq]
    refine (spec_FormatInt.l5_succ ..).trans ((bif_t hne).trans ?_)
    rw[ew]
    have ht:=tmod10 x
    by_cases hd:x.tmod 10<0
    ·have e1:IntKind.wrap .i64 (0-x.tmod 10)=((x.natAbs%10:Nat):Int):=by rw[wrap_i64 (by omega) (by omega)];omega
     rw[e1,u8_digit hr]
     exact (bif_t (dec_t hd)).trans ((chk_t (dec_t hsz)).trans fin)
    ·have e1:x.tmod 10=((x.natAbs%10:Nat):Int):=by omega
     rw[e1,u8_digit hr]
     exact (bif_f (dec_f (by omega))).trans ((chk_t (dec_t hsz)).trans fin)
theorem spec_FormatInt.eq {k:Nat} (hk:BIG<=k) {n:Int} (hn:wfI .i64 n):spec_FormatInt.f k n=some (itoaB n):=by
 have hw:=wf64 hn
 by_cases h0:n=0
 ·subst h0
  refine (bif_t rfl).trans (congrArg some (ba_ext ?_))
  show _=Go.Lib.itoa 0
  unfold Go.Lib.itoa
  rw[if_neg (by omega),show (0:Int).toNat=0 from rfl,Go.Lib.decDigits_one (by omega)];rfl
 ·have hl:=spec_FormatInt.loop k (fun x1=>bif decide (n<0) then chk (decide ((⟨#[45]⟩:ByteArray).size+x1.size<=maxI))<|some ((⟨#[45]⟩:ByteArray)++x1) else some x1) 19 k n ByteArray.empty (by omega) (by omega) (by simp[BIG] at hk;omega) (by show 0+19<=40;omega)
  have hlen:=digs_len 19 n.natAbs (by omega)
  have e0:(⟨(digs n.natAbs).toArray⟩:ByteArray)++ByteArray.empty=⟨(digs n.natAbs).toArray⟩:=ba_ext (by rw[ba_append];simp)
  rw[e0] at hl
  refine (bif_f (by simpa using h0)).trans (hl.trans ?_)
  have hd:=digs_pos (u:=n.natAbs) (by omega)
  by_cases hneg:n<0
  ·refine (bif_t (dec_t hneg)).trans ((chk_t (dec_t ?_)).trans (congrArg some (ba_ext ?_)))
   ·show 1+(digs n.natAbs).toArray.size<=9223372036854775807
    rw[List.size_toArray];omega
   ·rw[ba_append,hd]
    show [45]++Go.Lib.decDigits n.natAbs=Go.Lib.itoa n
    unfold Go.Lib.itoa
    rw[if_pos hneg];rfl
  ·refine (bif_f (dec_f hneg)).trans (congrArg some (ba_ext ?_))
   rw[hd]
   show Go.Lib.decDigits n.natAbs=Go.Lib.itoa n
   unfold Go.Lib.itoa
   rw[if_neg hneg,show n.toNat=n.natAbs by omega]
theorem impl_FormatInt.eq (k:Nat) {n:Int} (hn:wfI .i64 n):impl_FormatInt.f k n=some (itoaB n):=by
 have hw:=wf64 hn
 exact bind_s (chk_t (and_t (dec_t hw.1) (dec_t hw.2)))
theorem itoaB_le {n:Int} (hn:wfI .i64 n):(itoaB n).size<=21:=by
 have hw:=wf64 hn
 show (Go.Lib.itoa n).toArray.size<=21
 rw[List.size_toArray]
 unfold Go.Lib.itoa
 have key: ∀u:Nat,u<=9223372036854775808->(Go.Lib.decDigits u).length<=20:=fun u hu=>by
  rcases Nat.eq_zero_or_pos u with e|e
  ·subst e;rw[Go.Lib.decDigits_one (by omega)];simp
  ·rw[<- digs_pos e]
   have:=digs_len 19 u (by omega)
   omega
 split
 ·have:=key n.natAbs (by omega)
  rw[List.length_cons];omega
 ·have:=key n.toNat (by omega)
  omega
end Go.Proofs.YtbmmhdmljajcfaaGreatDoor
