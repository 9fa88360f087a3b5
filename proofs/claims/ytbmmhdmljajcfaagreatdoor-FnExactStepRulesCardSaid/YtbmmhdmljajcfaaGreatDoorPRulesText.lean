/- Rules as text, in plain Lean; the text's words. Conditions: enough rounds, lists of at most 2^20. -/
import Derived.Test.YtbmmhdmljajcfaaGreatDoorKit
import Derived.Test.YtbmmhdmljajcfaaGreatDoorFFnExactStepRules
import Derived.Test.YtbmmhdmljajcfaaGreatDoorPItoa
import Derived.Test.YtbmmhdmljajcfaaGreatDoorPRules
import Derived.Test.YtbmmhdmljajcfaaGreatDoorPPatText
import Derived.Test.YtbmmhdmljajcfaaGreatDoorPSplit
import Derived.Test.YtbmmhdmljajcfaaGreatDoorPModel
set_option linter.unusedVariables false
set_option linter.unusedSimpArgs false
namespace Go.Proofs.YtbmmhdmljajcfaaGreatDoor
open Go Go.Proofs.YtbmmhdmljajcfaaGreatDoor.V
def bothB:ByteArray:=⟨#[98,111,116,104]⟩
def suitW:ByteArray:=⟨#[115,117,105,116]⟩
def rankW:ByteArray:=⟨#[114,97,110,107]⟩
def rulesWord (b1 b2:Bool):ByteArray:=bif b1&&b2 then bothB else bif b1 then suitW else bif b2 then rankW else ByteArray.empty
theorem spec_RulesWord.eq (k:Nat) (n e:Int) (b1 b2:Bool) (w f:List Int) (t l:Int):spec_RulesWord.f k n e b1 b2 w f t l=some (rulesWord b1 b2):=by cases b1<;>cases b2<;>rfl
theorem impl_RulesWord.eq (k:Nat) (n e:Int) (b1 b2:Bool) (w f:List Int) (t l:Int):impl_RulesWord.f k n e b1 b2 w f t l=some (rulesWord b1 b2):=by cases b1<;>cases b2<;>rfl
def maybeTx (l:List Int):ByteArray:=bif ((l.length:Int)==0) then ⟨#[45]⟩ else patText l
theorem spec_l23Pattern.eq {k:Nat} (hk:BIG<=k) {l:List Int} (hl:l.length<1048577):spec_l23Pattern.f k l=some (maybeTx l):=by
 unfold spec_l23Pattern.f maybeTx
 cases (l.length:Int)==0 with
 |true=>rfl
 |false=>exact (bif_f rfl).trans (bind_s (spec_PatternText.eq hk hl))
theorem impl_maybeText.eq {k:Nat} (hk:BIG<=k) {l:List Int} (hl:l.length<1048577):impl_maybeText.f k l=some (maybeTx l):=by
 unfold impl_maybeText.f maybeTx
 cases (l.length:Int)==0 with
 |true=>rfl
 |false=>exact (bif_f rfl).trans (bind_s (impl_PatternText.eq hk hl))
theorem maybeTx_facts (l:List Int):(maybeTx l).size<=60/\nsp (maybeTx l):=by
 unfold maybeTx
 cases (l.length:Int)==0 with
 |true=>exact ⟨by show (⟨#[45]⟩:ByteArray).size<=60;decide,nsp_one (by decide)⟩
 |false=>exact ⟨patText_le l,patText_nsp l⟩
theorem rulesWord_facts (b1 b2:Bool):(rulesWord b1 b2).size<=4/\nsp (rulesWord b1 b2):=by
 have h1:nsp bothB:=by unfold nsp;decide+kernel
 have h2:nsp suitW:=by unfold nsp;decide+kernel
 have h3:nsp rankW:=by unfold nsp;decide+kernel
 cases b1<;>cases b2
 ·exact ⟨by decide,nsp_empty⟩
 ·exact ⟨by decide,h3⟩
 ·exact ⟨by decide,h2⟩
 ·exact ⟨by decide,h1⟩
theorem digs_nsp: ∀(m u:Nat),u<m-> ∀x∈Go.Lib.decDigits u,x≠32:=by
 have hdig: ∀d:Nat,d<10->UInt8.ofNat (48+d)≠32:=fun d hd=>by
  have:d=0\/d=1\/d=2\/d=3\/d=4\/d=5\/d=6\/d=7\/d=8\/d=9:=by omega
  rcases this with rfl|rfl|rfl|rfl|rfl|rfl|rfl|rfl|rfl|rfl<;>decide+kernel
 intro m
 induction m with
 |zero=>intro u h;omega
 |succ m ih=>
  intro u hu x hx
  rw[Go.Lib.decDigits] at hx
  by_cases h:u<10
  ·rw[dif_pos h] at hx
   rw[List.mem_singleton.1 hx];exact hdig u h
  ·rw[dif_neg h] at hx
   rcases List.mem_append.1 hx with hx|hx
   ·exact ih (u/10) (by omega) x hx
   ·rw[List.mem_singleton.1 hx];exact hdig _ (by omega)
theorem itoaB_nsp (n:Int):nsp (itoaB n):=by
 intro x hx
 have hx:x∈(Go.Lib.itoa n).toArray.toList:=hx
 unfold Go.Lib.itoa at hx
 split at hx
 ·rcases List.mem_cons.1 (show x∈45::Go.Lib.decDigits n.natAbs from hx) with rfl|hx
  ·decide
  ·exact digs_nsp _ _ (Nat.lt_succ_self _) x hx
 ·exact digs_nsp _ _ (Nat.lt_succ_self _) x hx
def nmB:List ByteArray:=[⟨#[112,108,97,121,101,114,115]⟩,⟨#[101,97,99,104]⟩,⟨#[109,97,116,99,104]⟩,⟨#[119,105,108,100]⟩,⟨#[115,107,105,112]⟩,⟨#[116,97,107,101]⟩,⟨#[108,105,109,105,116]⟩]
def ruleVals (r:Rl):List ByteArray:=[itoaB r.n,itoaB r.e,rulesWord r.b1 r.b2,maybeTx r.w,maybeTx r.f,itoaB r.t,itoaB r.l]
def ruleWords (r:Rl):List ByteArray:=[⟨#[112,108,97,121,101,114,115,61]⟩++itoaB r.n,⟨#[101,97,99,104,61]⟩++itoaB r.e,⟨#[109,97,116,99,104,61]⟩++rulesWord r.b1 r.b2,⟨#[119,105,108,100,61]⟩++maybeTx r.w,⟨#[115,107,105,112,61]⟩++maybeTx r.f,⟨#[116,97,107,101,61]⟩++itoaB r.t,⟨#[108,105,109,105,116,61]⟩++itoaB r.l]
def spB:ByteArray:=⟨#[32]⟩
def rulesText (r:Rl):ByteArray:=bif r.ok then joinB (ruleWords r) spB else ByteArray.empty
theorem rl_wf {r:Rl} (h:r.ok=true):wfI .i64 r.n/\wfI .i64 r.e/\wfI .i64 r.t/\wfI .i64 r.l/\(r.b1||r.b2)=true/\2<=r.n/\r.n<=6:=by
 unfold Rl.ok isRules inR at h
 simp only[Bool.and_eq_true,decide_eq_true_eq] at h
 have w (n:Int) (h1: -9223372036854775808<=n) (h2:n<=9223372036854775807):wfI .i64 n:=by simp[wfI,Lit.wf,IntKind.min,IntKind.max,IntKind.signed,IntKind.bits];omega
 obtain ⟨⟨⟨⟨⟨⟨⟨h1,h2⟩,⟨h3,h4⟩⟩,h5⟩,_⟩,_⟩,⟨h6,h7⟩⟩,⟨h8,h9⟩⟩:=h
 exact ⟨w _ (by omega) (by omega),w _ (by omega) (by omega),w _ (by omega) (by omega),w _ (by omega) (by omega),h5,h1,h2⟩
theorem ruleWords_facts {r:Rl} (h:r.ok=true): ∀w∈ruleWords r,w.size<=68/\nsp w:=by
 obtain ⟨w1,w2,w3,w4,_⟩:=rl_wf h
 have g (p x:ByteArray) (hp:p.size<=8) (hn:nsp p) (hx:x.size<=60/\nsp x):(p++x).size<=68/\nsp (p++x):=⟨by rw[ByteArray.size_append];omega,nsp_cat hn hx.2⟩
 have i1:=itoaB_le w1
 have i2:=itoaB_le w2
 have i3:=itoaB_le w3
 have i4:=itoaB_le w4
 have r1:=rulesWord_facts r.b1 r.b2
 intro w hw
 simp only[ruleWords,List.mem_cons,List.not_mem_nil,or_false] at hw
 rcases hw with rfl|rfl|rfl|rfl|rfl|rfl|rfl
 ·exact g _ _ (by decide) (by unfold nsp;decide+kernel) ⟨by omega,itoaB_nsp _⟩
 ·exact g _ _ (by decide) (by unfold nsp;decide+kernel) ⟨by omega,itoaB_nsp _⟩
 ·exact g _ _ (by decide) (by unfold nsp;decide+kernel) ⟨by omega,r1.2⟩
 ·exact g _ _ (by decide) (by unfold nsp;decide+kernel) (maybeTx_facts _)
 ·exact g _ _ (by decide) (by unfold nsp;decide+kernel) (maybeTx_facts _)
 ·exact g _ _ (by decide) (by unfold nsp;decide+kernel) ⟨by omega,itoaB_nsp _⟩
 ·exact g _ _ (by decide) (by unfold nsp;decide+kernel) ⟨by omega,itoaB_nsp _⟩
theorem join_seven (a b c d e f g sep:ByteArray):joinB [a,b,c,d,e,f,g] sep=a++sep++b++sep++c++sep++d++sep++e++sep++f++sep++g:=by
 apply bytes_ext
 show ((Go.Lib.join _ _).toArray).toList=_
 simp[Go.Lib.join,List.intercalate,bytes_cat]
theorem impl_RulesText.eq {k:Nat} (hk:BIG<=k) {r:Rl} (h:r.sm):impl_RulesText.f k r.n r.e r.b1 r.b2 r.w r.f r.t r.l=some (rulesText r):=by
 refine (bind_s (impl_IsRules.eq hk r.n r.e r.b1 r.b2 r.t r.l h.1 h.2)).trans ?_
 unfold rulesText
 show (bif !r.ok then _ else _)=_
 cases hr:r.ok with
 |false=>rfl
 |true=>
  obtain ⟨w1,w2,w3,w4,_⟩:=rl_wf hr
  have i1:=itoaB_le w1
  have i2:=itoaB_le w2
  have i3:=itoaB_le w3
  have i4:=itoaB_le w4
  have r1:=(rulesWord_facts r.b1 r.b2).1
  have m1:=(maybeTx_facts r.w).1
  have m2:=(maybeTx_facts r.f).1
  have hM:1000<=maxI:=by unfold maxI;omega
  have z8:(⟨#[112,108,97,121,101,114,115,61]⟩:ByteArray).size=8:=rfl
  have z1:(⟨#[101,97,99,104,61]⟩:ByteArray).size=5:=rfl
  have z2:(⟨#[109,97,116,99,104,61]⟩:ByteArray).size=6:=rfl
  have z3:(⟨#[119,105,108,100,61]⟩:ByteArray).size=5:=rfl
  have z4:(⟨#[115,107,105,112,61]⟩:ByteArray).size=5:=rfl
  have z5:(⟨#[116,97,107,101,61]⟩:ByteArray).size=5:=rfl
  have z6:(⟨#[108,105,109,105,116,61]⟩:ByteArray).size=6:=rfl
  refine (bif_f rfl).trans ((bind_s (impl_FormatInt.eq k w1)).trans ((chk_t (dec_t (by omega))).trans ((bind_s (impl_FormatInt.eq k w2)).trans ((chk_t (dec_t (by omega))).trans ((bind_s (impl_RulesWord.eq ..)).trans ((chk_t (dec_t (by omega))).trans ?_))))))
  refine (bind_s (impl_maybeText.eq hk h.1)).trans ((chk_t (dec_t (by omega))).trans ((bind_s (impl_maybeText.eq hk h.2)).trans ((chk_t (dec_t (by omega))).trans ((bind_s (impl_FormatInt.eq k w3)).trans ((chk_t (dec_t (by omega))).trans ((bind_s (impl_FormatInt.eq k w4)).trans ((chk_t (dec_t (by omega))).trans ?_)))))))
  exact bind_s (strings_Join.eq k (l:=ruleWords r) (sep:=spB) (by show 7<_;decide) (fun y hy=>by have:=(ruleWords_facts hr y hy).1;omega) (by decide))
theorem spec_RulesText.eq {k:Nat} (hk:BIG<=k) {r:Rl} (h:r.sm):spec_RulesText.f k r.n r.e r.b1 r.b2 r.w r.f r.t r.l=some (rulesText r):=by
 refine (bind_s (spec_IsRules.eq hk r.n r.e r.b1 r.b2 r.t r.l h.1 h.2)).trans ?_
 unfold rulesText
 show (bif !r.ok then _ else _)=_
 cases hr:r.ok with
 |false=>rfl
 |true=>
  obtain ⟨w1,w2,w3,w4,_⟩:=rl_wf hr
  have i1:=itoaB_le w1
  have i2:=itoaB_le w2
  have i3:=itoaB_le w3
  have i4:=itoaB_le w4
  have r1:=(rulesWord_facts r.b1 r.b2).1
  have m1:=(maybeTx_facts r.w).1
  have m2:=(maybeTx_facts r.f).1
  have hM:1000<=maxI:=by unfold maxI;omega
  have z8:(⟨#[112,108,97,121,101,114,115,61]⟩:ByteArray).size=8:=rfl
  have z1:(⟨#[32,101,97,99,104,61]⟩:ByteArray).size=6:=rfl
  have z2:(⟨#[32,109,97,116,99,104,61]⟩:ByteArray).size=7:=rfl
  have z3:(⟨#[32,119,105,108,100,61]⟩:ByteArray).size=6:=rfl
  have z4:(⟨#[32,115,107,105,112,61]⟩:ByteArray).size=6:=rfl
  have z5:(⟨#[32,116,97,107,101,61]⟩:ByteArray).size=6:=rfl
  have z6:(⟨#[32,108,105,109,105,116,61]⟩:ByteArray).size=7:=rfl
  have c {X:Option ByteArray} {q:Nat} (hq:q<=1000):chk (decide (q<=maxI)) X=X:=chk_t (dec_t (by omega))
  refine (bif_f rfl).trans ((bind_s (spec_FormatInt.eq hk w1)).trans ((c (by simp only[ByteArray.size_append,z8];omega)).trans ((c (by simp only[ByteArray.size_append,z8,z1];omega)).trans ?_)))
  refine (bind_s (spec_FormatInt.eq hk w2)).trans ((c (by simp only[ByteArray.size_append,z8,z1];omega)).trans ((c (by simp only[ByteArray.size_append,z8,z1,z2];omega)).trans ?_))
  refine (bind_s (spec_RulesWord.eq ..)).trans ((c (by simp only[ByteArray.size_append,z8,z1,z2];omega)).trans ((c (by simp only[ByteArray.size_append,z8,z1,z2,z3];omega)).trans ?_))
  refine (bind_s (spec_l23Pattern.eq hk h.1)).trans ((c (by simp only[ByteArray.size_append,z8,z1,z2,z3];omega)).trans ((c (by simp only[ByteArray.size_append,z8,z1,z2,z3,z4];omega)).trans ?_))
  refine (bind_s (spec_l23Pattern.eq hk h.2)).trans ((c (by simp only[ByteArray.size_append,z8,z1,z2,z3,z4];omega)).trans ((c (by simp only[ByteArray.size_append,z8,z1,z2,z3,z4,z5];omega)).trans ?_))
  refine (bind_s (spec_FormatInt.eq hk w3)).trans ((c (by simp only[ByteArray.size_append,z8,z1,z2,z3,z4,z5];omega)).trans ((c (by simp only[ByteArray.size_append,z8,z1,z2,z3,z4,z5,z6];omega)).trans ?_))
  refine (bind_s (spec_FormatInt.eq hk w4)).trans ((c (by simp only[ByteArray.size_append,z8,z1,z2,z3,z4,z5,z6];omega)).trans ?_)
  refine congrArg some ?_
  show _=joinB (ruleWords r) spB
  unfold ruleWords
  rw[join_seven]
  apply bytes_ext
  simp[bytes_cat,spB]
end Go.Proofs.YtbmmhdmljajcfaaGreatDoor
