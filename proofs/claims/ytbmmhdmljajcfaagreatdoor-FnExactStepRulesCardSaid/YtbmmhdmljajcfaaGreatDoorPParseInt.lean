/- Numbers read, in plain Lean. Conditions: enough rounds, texts of at most 2^20. -/
import Derived.Test.YtbmmhdmljajcfaaGreatDoorKit
import Derived.Test.YtbmmhdmljajcfaaGreatDoorFFnExactStepRules
import Derived.Test.YtbmmhdmljajcfaaGreatDoorPRange
import Derived.Test.YtbmmhdmljajcfaaGreatDoorPItoa
import Derived.Test.YtbmmhdmljajcfaaGreatDoorPBytes
import Derived.Test.YtbmmhdmljajcfaaGreatDoorVExt
set_option linter.unusedVariables false
set_option linter.unusedSimpArgs false
namespace Go.Proofs.YtbmmhdmljajcfaaGreatDoor
open Go Go.Proofs.YtbmmhdmljajcfaaGreatDoor.V
theorem wf_of {n:Int} (h1: -9223372036854775808<=n) (h2:n<=9223372036854775807):wfI .i64 n:=by
 simp[wfI,Lit.wf,IntKind.min,IntKind.max,IntKind.signed,IntKind.bits];omega
theorem decFrom_snoc (l:List UInt8) (b:UInt8): ∀acc:Nat,Go.Lib.decFrom acc (l++[b])=(Go.Lib.decFrom acc l).bind fun n=>(Go.Lib.digitVal b).map fun d=>n*10+d:=by
 induction l with
 |nil=>intro acc;simp only[List.nil_append,Go.Lib.decFrom,Option.bind_some];cases Go.Lib.digitVal b<;>rfl
 |cons a t ih=>
  intro acc
  simp only[List.cons_append,Go.Lib.decFrom]
  cases Go.Lib.digitVal a with
  |none=>rfl
  |some d=>exact ih _
theorem digit_of {d:Nat} (h:d<10):Go.Lib.digitVal (UInt8.ofNat (48+d))=some d:=by
 have:d=0\/d=1\/d=2\/d=3\/d=4\/d=5\/d=6\/d=7\/d=8\/d=9:=by omega
 rcases this with rfl|rfl|rfl|rfl|rfl|rfl|rfl|rfl|rfl|rfl<;>decide+kernel
theorem dec_digits: ∀(m u:Nat),u<m->Go.Lib.decFrom 0 (Go.Lib.decDigits u)=some u/\(Go.Lib.decDigits u≠[]):=by
 intro m
 induction m with
 |zero=>intro u h;omega
 |succ m ih=>
  intro u hu
  rw[Go.Lib.decDigits]
  by_cases h:u<10
  ·rw[dif_pos h]
   refine ⟨?_,by simp⟩
   simp only[Go.Lib.decFrom,digit_of h]
   rw[show 0*10+u=u by omega]
  ·rw[dif_neg h]
   refine ⟨?_,by simp⟩
   rw[decFrom_snoc,(ih (u/10) (by omega)).1,Option.bind_some,digit_of (by omega),Option.map_some]
   rw[show u/10*10+u%10=u by omega]
theorem digit_head {b:UInt8} {l:List UInt8} {acc n:Nat} (h:Go.Lib.decFrom acc (b::l)=some n):(b==45)=false/\(b==43)=false:=by
 have hd:Go.Lib.digitVal b≠none:=fun e=>by simp only[Go.Lib.decFrom,e] at h;cases h
 constructor
 ·cases e:b==45 with
  |false=>rfl
  |true=>rw[beq_iff_eq.1 e] at hd;exact absurd (by decide+kernel) hd
 ·cases e:b==43 with
  |false=>rfl
  |true=>rw[beq_iff_eq.1 e] at hd;exact absurd (by decide+kernel) hd
theorem atoi_dec {l:List UInt8} {n:Nat} (hl:l≠[]) (h:Go.Lib.decFrom 0 l=some n):Go.Lib.atoi l=some (n:Int):=by
 cases l with
 |nil=>exact absurd rfl hl
 |cons b r=>
  obtain ⟨h1,h2⟩:=digit_head h
  unfold Go.Lib.atoi
  show (if (b==45)=true then _ else if (b==43)=true then _ else (Go.Lib.decNat (b::r)).map _)=_
  rw[if_neg (by rw[h1];decide),if_neg (by rw[h2];decide)]
  unfold Go.Lib.decNat
  rw[show (b::r).isEmpty=false from rfl]
  show (Go.Lib.decFrom 0 (b::r)).map _=_
  rw[h];rfl
theorem itoaB_nat (n:Nat):(itoaB (n:Int)).data.toList=Go.Lib.decDigits n:=by
 show (Go.Lib.itoa (n:Int)).toArray.toList=_
 unfold Go.Lib.itoa
 rw[if_neg (by omega)]
 simp
theorem atoi_itoa (n:Nat):Go.Lib.atoi (itoaB (n:Int)).data.toList=some (n:Int)/\Go.Lib.decFrom 0 (itoaB (n:Int)).data.toList=some n/\(itoaB (n:Int)).data.toList≠[]:=by
 obtain ⟨h1,h2⟩:=dec_digits (n+1) n (Nat.lt_succ_self n)
 rw[itoaB_nat]
 exact ⟨atoi_dec h2 h1,h1,h2⟩
def parseInt (s:ByteArray):Int×Bool:=match Go.Lib.decFrom 0 s.data.toList with
 |some n=>bif decide (1<=s.size)&&decide (s.size<=13)&&decide (n<=1000000000000)&&((itoaB (n:Int)).toList==s.toList) then ((n:Int),true) else (0,false)
 |none=>(0,false)
theorem parseInt_itoa {n:Nat} (h:n<=1000000000000) (hs:(itoaB (n:Int)).size<=13):parseInt (itoaB (n:Int))=((n:Int),true):=by
 obtain ⟨_,h1,h2⟩:=atoi_itoa n
 have h3:1<=(itoaB (n:Int)).size:=by rw[<- bytes_len];exact List.length_pos_iff.2 h2
 unfold parseInt
 rw[h1]
 show (bif _ then _ else _)=_
 rw[dec_t h3,dec_t hs,dec_t h,beq_self_eq_true];rfl
theorem impl_ParseInt.eq {k:Nat} {s:ByteArray} (hs:s.size<1048577):impl_ParseInt.f k s=some (parseInt s):=by
 unfold impl_ParseInt.f
 by_cases h13:(s.size:Int)>13
 ·rw[bif_t (dec_t h13)]
  unfold parseInt
  split
  ·rename_i n _
   rw[dec_f (p:=s.size<=13) (by omega),Bool.and_false,Bool.false_and,Bool.false_and];rfl
  ·rfl
 rw[bif_f (dec_f h13)]
 refine (bind_s (show strconv_Atoi.f k s=some (atoiN s,atoiOK s) from chk_t (Nat.ble_eq_true_of_le (by omega)))).trans ?_
 by_cases hn: ∃n:Nat,n<=1000000000000/\itoaB (n:Int)=s
 ·obtain ⟨n,hn,rfl⟩:=hn
  obtain ⟨h1,_,_⟩:=atoi_itoa n
  have e1:atoiN (itoaB (n:Int))=n:=by unfold atoiN;rw[h1]
  have e2:atoiOK (itoaB (n:Int))=true:=by unfold atoiOK;rw[h1];rfl
  rw[parseInt_itoa hn (by omega)]
  refine (bif_f (by rw[e2];rfl)).trans ((bind_s (impl_InRange.eq k _ _ _)).trans ?_)
  rw[e1]
  refine (bif_f (by unfold inR;rw[dec_t (by omega),dec_t (by omega)];rfl)).trans ((bind_s (impl_FormatInt.eq k (show wfI .i64 (n:Int) from wf_of (by omega) (by omega)))).trans ?_)
  exact bif_f (by rw[beq_self_eq_true];rfl)
 ·have hp:parseInt s=(0,false):=by
   unfold parseInt
   split
   ·rename_i n _
    by_cases hle:n<=1000000000000
    ·have:((itoaB (n:Int)).toList==s.toList)=false:=by
      rw[bytes_eq_iff]
      exact dec_f fun e=>hn ⟨n,hle,bytes_ext e⟩
     rw[this,Bool.and_false];rfl
    ·rw[dec_f hle,Bool.and_false,Bool.false_and];rfl
   ·rfl
  rw[hp]
  cases hok:atoiOK s with
  |false=>exact bif_t rfl
  |true=>
   refine (bif_f rfl).trans ((bind_s (impl_InRange.eq k _ _ _)).trans ?_)
   cases hr:inR (atoiN s) 0 1000000000000 with
   |false=>exact bif_t rfl
   |true=>
    unfold inR at hr
    simp only[Bool.and_eq_true,decide_eq_true_eq] at hr
    obtain ⟨n,hna⟩: ∃n:Nat,atoiN s=(n:Int):=⟨(atoiN s).toNat,by omega⟩
    refine (bif_f rfl).trans ((bind_s (impl_FormatInt.eq k (show wfI .i64 (atoiN s) from wf_of (by omega) (by omega)))).trans ?_)
    refine bif_t ?_
    rw[bytes_eq_iff,hna]
    rw[dec_f fun e=>hn ⟨n,by omega,bytes_ext e⟩];rfl
theorem digitVal_in {b:UInt8}:(inR (b.toNat:Int) 48 57=true->Go.Lib.digitVal b=some (b.toNat-48)/\48<=b.toNat/\b.toNat<=57)/\(inR (b.toNat:Int) 48 57=false->Go.Lib.digitVal b=none):=by
 unfold inR Go.Lib.digitVal
 constructor
 ·intro h
  simp only[Bool.and_eq_true,decide_eq_true_eq] at h
  rw[if_pos (by omega)]
  exact ⟨rfl,by omega,by omega⟩
 ·intro h
  rw[if_neg]
  intro hc
  rw[dec_t (by omega),dec_t (by omega)] at h
  cases h
theorem spec_ParseInt.loop {R:Type} {k:Nat} {s:ByteArray} (hs:s.size<=13) (e0 e1:Int->Option R) (X:Option R) (hX: ∀x,e0 x=X): ∀(m n i acc:Nat),i+m=s.size->m<n->acc<10^i->
 spec_ParseInt.l5 k s e0 e1 n (acc:Int) (i:Int)=match Go.Lib.decFrom acc (s.data.toList.drop i) with|some v=>e1 (v:Int)|none=>X:=by
 intro m
 induction m with
 |zero=>
  intro n i acc hi hn hacc
  obtain ⟨n,rfl⟩: ∃j,n=j+1:=⟨n-1,by omega⟩
  rw[spec_ParseInt.l5_succ]
  unfold spec_ParseInt.s5
  rw[bif_f (dec_f (by omega)),List.drop_of_length_le (by rw[bytes_len];omega)]
  rfl
 |succ m ih=>
  intro n i acc hi hn hacc
  obtain ⟨n,rfl⟩: ∃j,n=j+1:=⟨n-1,by omega⟩
  have hlen:i<s.data.toList.length:=by rw[bytes_len];omega
  have hd:s.data.toList.drop i=s.data.toList[i]::s.data.toList.drop (i+1):=List.drop_eq_getElem_cons hlen
  generalize s.data.toList[i] =b at hd
  have hb:=b.toNat_lt
  have hsb:sb s i=(b.toNat:Int):=sb_get hd
  have hp13:(10:Nat)^i<=10^12:=Nat.pow_le_pow_right (by omega) (by omega)
  have hp:(10:Nat)^(i+1)=10^i*10:=Nat.pow_succ ..
  rw[spec_ParseInt.l5_succ]
  unfold spec_ParseInt.s5
  rw[bif_t (dec_t (by omega)),chk_t (and_t (dec_t (by omega)) (dec_t (by omega))),show ((i:Int)).toNat=i from Int.toNat_natCast i,hsb,wrap_i64 (by omega) (by omega)]
  refine (bind_s (spec_l1In.eq k _ _ _)).trans ?_
  rw[hd]
  cases hr:inR (b.toNat:Int) 48 57 with
  |false=>
   refine (bif_t rfl).trans ?_
   rw[hX]
   simp only[Go.Lib.decFrom,digitVal_in.2 hr]
  |true=>
   obtain ⟨e,h1,h2⟩:=digitVal_in.1 hr
   have e8:IntKind.wrap .u8 ((b.toNat:Int)-48)=((b.toNat-48:Nat):Int):=by
    have:((b.toNat:Int)-48)=((b.toNat-48:Nat):Int):=by omega
    rw[this]
    have h3:b.toNat-48<10:=by omega
    generalize b.toNat-48=d at h3
    have:d=0\/d=1\/d=2\/d=3\/d=4\/d=5\/d=6\/d=7\/d=8\/d=9:=by omega
    rcases this with rfl|rfl|rfl|rfl|rfl|rfl|rfl|rfl|rfl|rfl<;>decide+kernel
   have hp13':acc<1000000000000:=Nat.lt_of_lt_of_le hacc hp13
   refine (bif_f rfl).trans ?_
   rw[chk_t (and_t (dec_t (by omega)) (dec_t (by omega))),e8,wrap_i64 (n:=((b.toNat-48:Nat):Int)) (by omega) (by omega),wrap_i64 (n:=10*(acc:Int)) (by omega) (by omega),wrap_i64 (by omega) (by omega),wrap_up (by omega)]
   rw[show (10*(acc:Int)+((b.toNat-48:Nat):Int))=((acc*10+(b.toNat-48):Nat):Int) by omega]
   rw[ih n (i+1) (acc*10+(b.toNat-48)) (by omega) (by omega) (by omega)]
   simp only[Go.Lib.decFrom,e]
theorem spec_ParseInt.eq {k:Nat} (hk:BIG<=k) {s:ByteArray} (hs:s.size<1048577):spec_ParseInt.f k s=some (parseInt s):=by
 refine (bind_s (spec_l1In.eq k _ _ _)).trans ?_
 cases hr:inR (s.size:Int) 1 13 with
 |false=>
  refine (bif_t rfl).trans ?_
  have:(decide (1<=s.size)&&decide (s.size<=13))=false:=by
   unfold inR at hr
   rw[<- hr]
   congr 1<;>simp<;>omega
  unfold parseInt
  split
  ·rw[this,Bool.false_and,Bool.false_and];rfl
  ·rfl
 |true=>
  unfold inR at hr
  simp only[Bool.and_eq_true,decide_eq_true_eq] at hr
  have hB:BIG=1073741824:=rfl
  refine (bif_f rfl).trans ((spec_ParseInt.loop (by omega) _ _ (some (0,false)) (fun _=>rfl) s.size k 0 0 (by omega) (by omega) (by decide)).trans ?_)
  rw[List.drop_zero]
  unfold parseInt
  cases hd:Go.Lib.decFrom 0 s.data.toList with
  |none=>rfl
  |some v=>
   show (bif decide ((v:Int)>1000000000000) then _ else _)=some (bif decide (1<=s.size)&&decide (s.size<=13)&&decide (v<=1000000000000)&&((itoaB (v:Int)).toList==s.toList) then ((v:Int),true) else (0,false))
   by_cases hv:v<=1000000000000
   ·refine (bif_f (dec_f (by omega))).trans ((bind_s (spec_FormatInt.eq hk (show wfI .i64 (v:Int) from wf_of (by omega) (by omega)))).trans ?_)
    rw[dec_t (p:=1<=s.size) (by omega),dec_t (p:=s.size<=13) (by omega),dec_t hv]
    cases (itoaB (v:Int)).toList==s.toList<;>rfl
   ·refine (bif_t (dec_t (by omega))).trans ?_
    rw[dec_f hv,Bool.and_false,Bool.false_and];rfl
end Go.Proofs.YtbmmhdmljajcfaaGreatDoor
