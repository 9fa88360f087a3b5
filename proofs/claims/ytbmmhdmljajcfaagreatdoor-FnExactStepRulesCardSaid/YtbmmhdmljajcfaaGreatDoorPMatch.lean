/- What a pattern matches, in plain Lean. Conditions: enough rounds, lists of at most 2^20. -/
import Derived.Test.YtbmmhdmljajcfaaGreatDoorKit
import Derived.Test.YtbmmhdmljajcfaaGreatDoorFFnExactStepRules
import Derived.Test.YtbmmhdmljajcfaaGreatDoorPPattern
import Derived.Test.YtbmmhdmljajcfaaGreatDoorPCard
set_option linter.unusedVariables false
set_option linter.unusedSimpArgs false
namespace Go.Proofs.YtbmmhdmljajcfaaGreatDoor
open Go Go.Proofs.YtbmmhdmljajcfaaGreatDoor.V
def valB (a c:Int):Bool:=bif a==400 then isRed c else bif decide (a>=300) then decide (rankOf c>=IntKind.wrap .i64 (a-300)) else bif decide (a>=200) then rankOf c==IntKind.wrap .i64 (a-200) else suitOf c==IntKind.wrap .i64 (a-100)
theorem spec_l8Value.eq (k:Nat) (a c:Int):spec_l8Value.f k a c=some (valB a c):=by
 unfold spec_l8Value.f valB
 simp only[spec_IsRed.eq,spec_RankOf.eq,spec_SuitOf.eq,Option.bind_some]
 cases (a==(400:Int))<;>cases decide (a>=300)<;>cases decide (a>=200)<;>rfl
theorem impl_asks.eq (k:Nat) (a c:Int):impl_asks.f k a c=some (valB a c):=by
 unfold impl_asks.f valB
 simp only[impl_IsRed.eq,impl_RankOf.eq,impl_SuitOf.eq,Option.bind_some]
 cases (a==(400:Int))<;>cases decide (a>=300)<;>cases decide (a>=200)<;>rfl
def stepS (c:Int) (st:List Bool) (a:Int):List Bool:=
 bif a== -1 then st.set (st.length-1) (!(st.getD (st.length-1) false))
 else bif a== -2 then st.take (st.length-2)++[bif st.getD (st.length-2) false then st.getD (st.length-1) false else false]
 else bif a== -3 then st.take (st.length-2)++[bif st.getD (st.length-2) false then true else st.getD (st.length-1) false]
 else st++[valB a c]
theorem stepS_1 (c:Int) (st:List Bool) {a:Int} (h:a= -1):stepS c st a=st.set (st.length-1) (!(st.getD (st.length-1) false)):=by subst h;rfl
theorem stepS_2 (c:Int) (st:List Bool) {a:Int} (h:a= -2):stepS c st a=st.take (st.length-2)++[bif st.getD (st.length-2) false then st.getD (st.length-1) false else false]:=by subst h;rfl
theorem stepS_3 (c:Int) (st:List Bool) {a:Int} (h:a= -3):stepS c st a=st.take (st.length-2)++[bif st.getD (st.length-2) false then true else st.getD (st.length-1) false]:=by subst h;rfl
theorem stepS_4 (c:Int) (st:List Bool) {a:Int} (h1:a≠ -1) (h2:a≠ -2) (h3:a≠ -3):stepS c st a=st++[valB a c]:=by
 unfold stepS
 rw[show (a==(-1:Int))=false by simp[h1],show (a==(-2:Int))=false by simp[h2],show (a==(-3:Int))=false by simp[h3]]
 rfl
theorem patOK_1 {d:Nat} (h:patOK (d:Int) (-1)=true):1<=d:=by
 have e:leafB (-1)=false:=by decide
 unfold patOK at h;rw[e] at h;simp at h;omega
theorem patOK_2 {d:Nat} (h:patOK (d:Int) (-2)=true):2<=d:=by
 have e:leafB (-2)=false:=by decide
 unfold patOK at h;rw[e] at h;simp at h;omega
theorem patOK_3 {d:Nat} (h:patOK (d:Int) (-3)=true):2<=d:=by
 have e:leafB (-3)=false:=by decide
 unfold patOK at h;rw[e] at h;simp at h;omega
theorem stepS_len (c:Int) (st:List Bool) (a:Int) (h:patOK (st.length:Int) a=true):((stepS c st a).length:Int)=patD (st.length:Int) a:=by
 by_cases h1:a= -1
 ·subst h1;rw[stepS_1 c st rfl,show patD (st.length:Int) (-1)=st.length from rfl];simp
 ·by_cases h2:a= -2
  ·subst h2;have:=patOK_2 h;rw[stepS_2 c st rfl,show patD (st.length:Int) (-2)=(st.length:Int)-1 from rfl];simp;omega
  ·by_cases h3:a= -3
   ·subst h3;have:=patOK_3 h;rw[stepS_3 c st rfl,show patD (st.length:Int) (-3)=(st.length:Int)-1 from rfl];simp;omega
   ·rw[stepS_4 c st h1 h2 h3]
    unfold patOK at h
    unfold patD
    cases e:leafB a with
    |true=>simp
    |false=>rw[e] at h;simp[h1,h2,h3] at h
theorem foldS_len (c:Int): ∀(l:List Int) (st:List Bool),okPat l (st.length:Int)=true->((l.foldl (stepS c) st).length:Int)=1
 | [],st,h=>by simpa[okPat] using h
 |a::l,st,h=>by
  obtain ⟨h1,h2⟩:=Bool.and_eq_true_iff.1 h
  rw[List.foldl_cons]
  exact foldS_len c l _ (by rw[stepS_len c st a h1];exact h2)
theorem wrap_dn1 {n:Nat} (h:1<=n) (h2:n<4611686018427387904):IntKind.wrap .i64 ((n:Int)-1)=((n-1:Nat):Int):=by rw[wrap_i64 (by omega) (by omega)];omega
theorem wrap_dn2 {n:Nat} (h:2<=n) (h2:n<4611686018427387904):IntKind.wrap .i64 ((n:Int)-2)=((n-2:Nat):Int):=by rw[wrap_i64 (by omega) (by omega)];omega
def matchB (l:List Int) (c:Int):Bool:=bif isPattern l then bif isCard c then (l.foldl (stepS c) []).getD 0 false else false else false
theorem spec_Matches.eq {k:Nat} (hk:BIG<=k) {l:List Int} (c:Int) (hl:l.length<1048577):spec_Matches.f k l c=some (matchB l c):=by
 unfold matchB
 refine (bind_s (spec_IsPattern.eq hk hl)).trans ?_
 cases hp:isPattern l with
 |false=>rfl
 |true=>
  refine (bif_f rfl).trans ((bind_s (spec_IsCard.eq ..)).trans ?_)
  cases hc:isCard c with
  |false=>rfl
  |true=>
   refine (bif_f rfl).trans ?_
   have hp0:okPat l 0=true:=by unfold isPattern at hp;simp only[Bool.and_eq_true] at hp;exact hp.1
   have h:=scan (B:=List Bool) l (fun m b i=>spec_Matches.l5 k l c (fun x4=>chk (decide ((0:Int)<(x4.length:Int)))<|some (x4.getD 0 false)) m i b) (fun _ _=>true) (stepS c) (fun x4=>chk (decide ((0:Int)<(x4.length:Int)))<|some (x4.getD 0 false)) (fun _ _=>none) (fun i b=>okPat (l.drop i) (b.length:Int)=true/\b.length<=i)
    (fun m b i h hI=>by
      obtain ⟨hI,hle⟩:=hI
      rw[drop_cons h] at hI
      obtain ⟨ho,_⟩:=Bool.and_eq_true_iff.1 hI
      refine (spec_Matches.l5_succ ..).trans ?_
      refine (bif_t (dec_t (by omega))).trans ?_
      refine (chk_t (in_t h)).trans ?_
      rw[Int.toNat_natCast,getD_lt _ h,wrap_up (by omega)]
      simp only[cond_true]
      by_cases h1:l[i] = -1
      ·have hd:=patOK_1 (h1 ▸ ho)
       refine (bif_t (by simp[h1])).trans ?_
       rw[wrap_dn1 (by omega) (by omega)]
       refine (chk_t (in_t (by omega))).trans ((chk_t (in_t (by omega))).trans ?_)
       rw[Int.toNat_natCast,stepS_1 c b h1]
      ·refine (bif_f (by simp[h1])).trans ?_
       by_cases h2:l[i] = -2
       ·have hd:=patOK_2 (h2 ▸ ho)
        refine (bif_t (by simp[h2])).trans ?_
        rw[wrap_dn1 (by omega) (by omega),wrap_dn2 (by omega) (by omega)]
        refine (chk_t (and_t (dec_t (by omega)) (dec_t (by omega)))).trans ((chk_t (dec_t (by omega))).trans ((chk_t (in_t (by omega))).trans ?_))
        rw[Int.toNat_natCast,Int.toNat_natCast,stepS_2 c b h2]
        cases e:b.getD (b.length-2) false with
        |true=>exact (bif_t rfl).trans ((chk_t (in_t (by omega))).trans (chk_t (dec_t (by simp[room];omega))))
        |false=>exact (bif_f rfl).trans (chk_t (dec_t (by simp[room];omega)))
       ·refine (bif_f (by simp[h2])).trans ?_
        by_cases h3:l[i] = -3
        ·have hd:=patOK_3 (h3 ▸ ho)
         refine (bif_t (by simp[h3])).trans ?_
         rw[wrap_dn1 (by omega) (by omega),wrap_dn2 (by omega) (by omega)]
         refine (chk_t (and_t (dec_t (by omega)) (dec_t (by omega)))).trans ((chk_t (dec_t (by omega))).trans ((chk_t (in_t (by omega))).trans ?_))
         rw[Int.toNat_natCast,Int.toNat_natCast,stepS_3 c b h3]
         cases e:b.getD (b.length-2) false with
         |true=>exact (bif_t rfl).trans (chk_t (dec_t (by simp[room];omega)))
         |false=>exact (bif_f rfl).trans ((chk_t (in_t (by omega))).trans (chk_t (dec_t (by simp[room];omega))))
        ·refine (bif_f (by simp[h3])).trans ?_
         refine (chk_t (in_t h)).trans ?_
         refine (bind_s (spec_l8Value.eq ..)).trans ?_
         refine (chk_t (dec_t (by simp[room];omega))).trans ?_
         rw[stepS_4 c b h1 h2 h3])
    (fun b i h hI _=>by
      obtain ⟨hI,hle⟩:=hI
      rw[drop_cons h] at hI
      obtain ⟨ho,hr⟩:=Bool.and_eq_true_iff.1 hI
      have hs:=stepS_len c b l[i] ho
      have:=patD_le ho (by omega)
      exact ⟨by rw[hs];exact hr,by omega⟩)
    (fun m b hI=>(spec_Matches.l5_succ ..).trans (bif_f (dec_f (by omega))))
    l.length 0 k [] (by omega) (BIG_lt hk hl) ⟨by simpa using hp0,by simp⟩
   refine h.trans ?_
   rw[List.drop_zero,run_fold]
   have hf:=foldS_len c l [] (by simpa using hp0)
   exact chk_t (dec_t (by omega))
theorem impl_Matches.eq {k:Nat} (hk:BIG<=k) {l:List Int} (c:Int) (hl:l.length<1048577):impl_Matches.f k l c=some (matchB l c):=by
 unfold matchB
 refine (bind_s (impl_IsPattern.eq hk hl)).trans ?_
 cases hp:isPattern l with
 |false=>rfl
 |true=>
  refine (bif_f rfl).trans ((bind_s (impl_IsCard.eq ..)).trans ?_)
  cases hc:isCard c with
  |false=>rfl
  |true=>
   refine (bif_f rfl).trans ?_
   have hp0:okPat l 0=true:=by unfold isPattern at hp;simp only[Bool.and_eq_true] at hp;exact hp.1
   have h:=scan (B:=List Bool) l (fun m b i=>impl_Matches.l5 k c l (l.length:Int) (fun x4=>chk (decide ((0:Int)<(x4.length:Int)))<|some (x4.getD 0 false)) m i b) (fun _ _=>true) (stepS c) (fun x4=>chk (decide ((0:Int)<(x4.length:Int)))<|some (x4.getD 0 false)) (fun _ _=>none) (fun i b=>okPat (l.drop i) (b.length:Int)=true/\b.length<=i)
    (fun m b i h hI=>by
      obtain ⟨hI,hle⟩:=hI
      rw[drop_cons h] at hI
      obtain ⟨ho,_⟩:=Bool.and_eq_true_iff.1 hI
      refine (impl_Matches.l5_succ ..).trans ?_
      refine (bif_t (dec_t (by omega))).trans ?_
      refine (chk_t (in_t h)).trans ?_
      rw[Int.toNat_natCast,getD_lt _ h,wrap_up (by omega)]
      simp only[cond_true]
      by_cases h1:l[i] = -1
      ·have hd:=patOK_1 (h1 ▸ ho)
       refine (bif_t (by simp[h1])).trans ?_
       rw[wrap_dn1 (by omega) (by omega)]
       refine (chk_t (in_t (by omega))).trans ((chk_t (in_t (by omega))).trans ?_)
       rw[Int.toNat_natCast,stepS_1 c b h1]
      ·refine (bif_f (by simp[h1])).trans ?_
       by_cases h2:l[i] = -2
       ·have hd:=patOK_2 (h2 ▸ ho)
        refine (bif_t (by simp[h2])).trans ?_
        rw[wrap_dn1 (by omega) (by omega),wrap_dn2 (by omega) (by omega)]
        refine (chk_t (and_t (dec_t (by omega)) (dec_t (by omega)))).trans ((chk_t (dec_t (by omega))).trans ((chk_t (in_t (by omega))).trans ?_))
        rw[Int.toNat_natCast,Int.toNat_natCast,stepS_2 c b h2]
        cases e:b.getD (b.length-2) false with
        |true=>exact (bif_t rfl).trans ((chk_t (in_t (by omega))).trans (chk_t (dec_t (by simp[room];omega))))
        |false=>exact (bif_f rfl).trans (chk_t (dec_t (by simp[room];omega)))
       ·refine (bif_f (by simp[h2])).trans ?_
        by_cases h3:l[i] = -3
        ·have hd:=patOK_3 (h3 ▸ ho)
         refine (bif_t (by simp[h3])).trans ?_
         rw[wrap_dn1 (by omega) (by omega),wrap_dn2 (by omega) (by omega)]
         refine (chk_t (and_t (dec_t (by omega)) (dec_t (by omega)))).trans ((chk_t (dec_t (by omega))).trans ((chk_t (in_t (by omega))).trans ?_))
         rw[Int.toNat_natCast,Int.toNat_natCast,stepS_3 c b h3]
         cases e:b.getD (b.length-2) false with
         |true=>exact (bif_t rfl).trans (chk_t (dec_t (by simp[room];omega)))
         |false=>exact (bif_f rfl).trans ((chk_t (in_t (by omega))).trans (chk_t (dec_t (by simp[room];omega))))
        ·refine (bif_f (by simp[h3])).trans ?_
         refine (bind_s (impl_asks.eq ..)).trans ?_
         refine (chk_t (dec_t (by simp[room];omega))).trans ?_
         rw[stepS_4 c b h1 h2 h3])
    (fun b i h hI _=>by
      obtain ⟨hI,hle⟩:=hI
      rw[drop_cons h] at hI
      obtain ⟨ho,hr⟩:=Bool.and_eq_true_iff.1 hI
      have hs:=stepS_len c b l[i] ho
      have:=patD_le ho (by omega)
      exact ⟨by rw[hs];exact hr,by omega⟩)
    (fun m b hI=>(impl_Matches.l5_succ ..).trans (bif_f (dec_f (by omega))))
    l.length 0 k [] (by omega) (BIG_lt hk hl) ⟨by simpa using hp0,by simp⟩
   refine h.trans ?_
   rw[List.drop_zero,run_fold]
   have hf:=foldS_len c l [] (by simpa using hp0)
   exact chk_t (dec_t (by omega))
end Go.Proofs.YtbmmhdmljajcfaaGreatDoor
