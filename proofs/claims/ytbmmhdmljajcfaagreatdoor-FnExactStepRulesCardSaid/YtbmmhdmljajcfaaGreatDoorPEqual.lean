/- Comparing lists, rules and games, in plain Lean. Conditions: enough rounds, lists of at most 2^20. -/
import Derived.Test.YtbmmhdmljajcfaaGreatDoorKit
import Derived.Test.YtbmmhdmljajcfaaGreatDoorFFnExactStepRules
import Derived.Test.YtbmmhdmljajcfaaGreatDoorPModel
set_option linter.unusedVariables false
set_option linter.unusedSimpArgs false
namespace Go.Proofs.YtbmmhdmljajcfaaGreatDoor
open Go Go.Proofs.YtbmmhdmljajcfaaGreatDoor.V
theorem cons_dec {α:Type} [DecidableEq α] (x y:α) (s t:List α):decide (x::s=y::t)=(decide (x=y)&&decide (s=t)):=by
 by_cases h1:x=y
 ·subst h1
  by_cases h2:s=t
  ·subst h2;simp
  ·simp[h2]
 ·simp[h1]
theorem drop_eq_dec {α:Type} [DecidableEq α] {a b:List α} {i:Nat} (ha:i<a.length) (hb:i<b.length):decide (a.drop i=b.drop i)=(decide (a[i] =b[i])&&decide (a.drop (i+1)=b.drop (i+1))):=by
 rw[<- cons_dec]
 congr 1
 rw[drop_cons ha,drop_cons hb]
theorem spec_EqualInts.loop {R:Type} (k:Nat) {a b:List Int} (h:a.length=b.length) (hl:a.length<1073741824) (e0 e1:Option R): ∀(m i n:Nat),i+m=a.length->m<n->spec_EqualInts.l4 k a b e0 e1 n (i:Int)=bif decide (a.drop i=b.drop i) then e1 else e0:=by
 intro m
 induction m with
 |zero=>
  intro i n hi hn
  obtain ⟨n,rfl⟩: ∃n',n=n' +1:=⟨n-1,by omega⟩
  rw[List.drop_eq_nil_of_le (by omega),List.drop_eq_nil_of_le (by omega)]
  exact (spec_EqualInts.l4_succ ..).trans (bif_f (dec_f (by omega)))
 |succ m ih=>
  intro i n hi hn
  obtain ⟨n,rfl⟩: ∃n',n=n' +1:=⟨n-1,by omega⟩
  have ha:i<a.length:=by omega
  have hb:i<b.length:=by omega
  refine (spec_EqualInts.l4_succ ..).trans ((bif_t (dec_t (by omega))).trans ((chk_t (in_t ha)).trans ((chk_t (in_t hb)).trans ?_)))
  rw[Int.toNat_natCast,getD_lt (l:=a) _ ha,getD_lt (l:=b) _ hb,wrap_up (by omega),ih (i+1) n (by omega) (by omega),drop_eq_dec ha hb]
  by_cases h1:a[i] =b[i]
  ·rw[dec_t h1]
   exact (bif_f (by simp[h1])).trans (by simp)
  ·rw[dec_f h1]
   exact (bif_t (by simp[h1])).trans rfl
theorem impl_EqualInts.loop {R:Type} (k:Nat) {a b:List Int} (h:a.length=b.length) (hl:a.length<1073741824) (e0 e1:Option R): ∀(m i n:Nat),i+m=a.length->m<n->impl_EqualInts.l4 k a b (a.length:Int) e0 e1 n (i:Int)=bif decide (a.drop i=b.drop i) then e1 else e0:=by
 intro m
 induction m with
 |zero=>
  intro i n hi hn
  obtain ⟨n,rfl⟩: ∃n',n=n' +1:=⟨n-1,by omega⟩
  rw[List.drop_eq_nil_of_le (by omega),List.drop_eq_nil_of_le (by omega)]
  exact (impl_EqualInts.l4_succ ..).trans (bif_f (dec_f (by omega)))
 |succ m ih=>
  intro i n hi hn
  obtain ⟨n,rfl⟩: ∃n',n=n' +1:=⟨n-1,by omega⟩
  have ha:i<a.length:=by omega
  have hb:i<b.length:=by omega
  refine (impl_EqualInts.l4_succ ..).trans ((bif_t (dec_t (by omega))).trans ((chk_t (in_t ha)).trans ((chk_t (in_t hb)).trans ?_)))
  rw[Int.toNat_natCast,getD_lt (l:=a) _ ha,getD_lt (l:=b) _ hb,wrap_up (by omega),ih (i+1) n (by omega) (by omega),drop_eq_dec ha hb]
  by_cases h1:a[i] =b[i]
  ·rw[dec_t h1]
   exact (bif_f (by simp[h1])).trans (by simp)
  ·rw[dec_f h1]
   exact (bif_t (by simp[h1])).trans rfl
def eqI (a b:List Int):Bool:=decide (a=b)
theorem len_ne {α:Type} [DecidableEq α] {a b:List α} (h: ¬((a.length:Int)=(b.length:Int))):decide (a=b)=false:=dec_f (fun e=>h (by rw[e]))
theorem spec_EqualInts.eq {k:Nat} (hk:BIG<=k) {a:List Int} (b:List Int) (hl:a.length<1073741824):spec_EqualInts.f k a b=some (eqI a b):=by
 unfold eqI
 by_cases h:(a.length:Int)=(b.length:Int)
 ·refine (bif_f (by simp[h])).trans ((spec_EqualInts.loop k (by omega) hl _ _ a.length 0 k (by omega) (BIG_lt' hk hl)).trans ?_)
  rw[List.drop_zero,List.drop_zero]
  cases decide (a=b)<;>rfl
 ·rw[len_ne h]
  exact (bif_t (by simpa using h)).trans rfl
theorem impl_EqualInts.eq {k:Nat} (hk:BIG<=k) {a:List Int} (b:List Int) (hl:a.length<1073741824):impl_EqualInts.f k a b=some (eqI a b):=by
 unfold eqI
 by_cases h:(a.length:Int)=(b.length:Int)
 ·refine (bif_f (by simp[h])).trans ((impl_EqualInts.loop k (by omega) hl _ _ a.length 0 k (by omega) (BIG_lt' hk hl)).trans ?_)
  rw[List.drop_zero,List.drop_zero]
  cases decide (a=b)<;>rfl
 ·rw[len_ne h]
  exact (bif_t (by simpa using h)).trans rfl
def eqII (a b:List (List Int)):Bool:=decide (a=b)
theorem spec_EqualGames.loop {R:Type} {k:Nat} (hk:BIG<=k) {a b:List (List Int)} (h:a.length=b.length) (hl:smII a) (e0 e1:Option R): ∀(m i n:Nat),i+m=a.length->m<n->spec_EqualGames.l4 k a b e0 e1 n (i:Int)=bif decide (a.drop i=b.drop i) then e1 else e0:=by
 intro m
 induction m with
 |zero=>
  intro i n hi hn
  obtain ⟨n,rfl⟩: ∃n',n=n' +1:=⟨n-1,by omega⟩
  rw[List.drop_eq_nil_of_le (by omega),List.drop_eq_nil_of_le (by omega)]
  exact (spec_EqualGames.l4_succ ..).trans (bif_f (dec_f (by omega)))
 |succ m ih=>
  intro i n hi hn
  obtain ⟨n,rfl⟩: ∃n',n=n' +1:=⟨n-1,by omega⟩
  have ha:i<a.length:=by omega
  have hb:i<b.length:=by omega
  have:=hl.1
  have:=hl.2 _ (List.getElem_mem ha)
  refine (spec_EqualGames.l4_succ ..).trans ((bif_t (dec_t (by omega))).trans ((chk_t (in_t ha)).trans ((chk_t (in_t hb)).trans ?_)))
  rw[Int.toNat_natCast,getD_lt (l:=a) _ ha,getD_lt (l:=b) _ hb,wrap_up (by omega)]
  refine (bind_s (spec_EqualInts.eq hk _ (by omega))).trans ?_
  rw[ih (i+1) n (by omega) (by omega),drop_eq_dec ha hb]
  unfold eqI
  cases decide (a[i] =b[i])<;>rfl
theorem impl_sameRows.loop {R:Type} {k:Nat} (hk:BIG<=k) {a b:List (List Int)} (h:a.length=b.length) (hl:smII a) (e0 e1:Option R): ∀(m i n:Nat),i+m=a.length->m<n->impl_sameRows.l4 k a b (a.length:Int) e0 e1 n (i:Int)=bif decide (a.drop i=b.drop i) then e1 else e0:=by
 intro m
 induction m with
 |zero=>
  intro i n hi hn
  obtain ⟨n,rfl⟩: ∃n',n=n' +1:=⟨n-1,by omega⟩
  rw[List.drop_eq_nil_of_le (by omega),List.drop_eq_nil_of_le (by omega)]
  exact (impl_sameRows.l4_succ ..).trans (bif_f (dec_f (by omega)))
 |succ m ih=>
  intro i n hi hn
  obtain ⟨n,rfl⟩: ∃n',n=n' +1:=⟨n-1,by omega⟩
  have ha:i<a.length:=by omega
  have hb:i<b.length:=by omega
  have:=hl.1
  have:=hl.2 _ (List.getElem_mem ha)
  refine (impl_sameRows.l4_succ ..).trans ((bif_t (dec_t (by omega))).trans ((chk_t (in_t ha)).trans ((chk_t (in_t hb)).trans ?_)))
  rw[Int.toNat_natCast,getD_lt (l:=a) _ ha,getD_lt (l:=b) _ hb,wrap_up (by omega)]
  refine (bind_s (impl_EqualInts.eq hk _ (by omega))).trans ?_
  rw[ih (i+1) n (by omega) (by omega),drop_eq_dec ha hb]
  unfold eqI
  cases decide (a[i] =b[i])<;>rfl
theorem impl_sameRows.eq {k:Nat} (hk:BIG<=k) {a:List (List Int)} (b:List (List Int)) (hl:smII a):impl_sameRows.f k a b=some (eqII a b):=by
 unfold eqII
 by_cases h:(a.length:Int)=(b.length:Int)
 ·refine (bif_f (by simp[h])).trans ((impl_sameRows.loop hk (by omega) hl _ _ a.length 0 k (by omega) (BIG_lt hk hl.1)).trans ?_)
  rw[List.drop_zero,List.drop_zero]
  cases decide (a=b)<;>rfl
 ·rw[len_ne h]
  exact (bif_t (by simpa using h)).trans rfl
def eqRl (r s:Rl):Bool:=(r.n==s.n)&&(r.e==s.e)&&(r.b1==s.b1)&&(r.b2==s.b2)&&eqI r.w s.w&&eqI r.f s.f&&(r.t==s.t)&&(r.l==s.l)
def eqGm (g h:Gm):Bool:=eqRl g.r h.r&&eqII g.hs h.hs&&eqI g.st h.st&&eqI g.hp h.hp&&(g.tn==h.tn)&&(g.mv==h.mv)&&(g.ps==h.ps)
theorem spec_EqualRules.eq {k:Nat} (hk:BIG<=k) {r:Rl} (s:Rl) (h:r.sm):s.ap (r.ap (spec_EqualRules.f k))=some (eqRl r s):=by
 show spec_EqualRules.f k r.n r.e r.b1 r.b2 r.w r.f r.t r.l s.n s.e s.b1 s.b2 s.w s.f s.t s.l=_
 have h1:=h.1
 have h2:=h.2
 unfold spec_EqualRules.f eqRl
 simp only[spec_EqualInts.eq hk s.w (show r.w.length<1073741824 by omega),spec_EqualInts.eq hk s.f (show r.f.length<1073741824 by omega),Option.bind_some]
 cases (r.n==s.n)<;>cases (r.e==s.e)<;>cases (r.b1==s.b1)<;>cases (r.b2==s.b2)<;>cases eqI r.w s.w<;>cases eqI r.f s.f<;>cases (r.t==s.t)<;>rfl
theorem impl_EqualRules.eq {k:Nat} (hk:BIG<=k) {r:Rl} (s:Rl) (h:r.sm):s.ap (r.ap (impl_EqualRules.f k))=some (eqRl r s):=by
 show impl_EqualRules.f k r.n r.e r.b1 r.b2 r.w r.f r.t r.l s.n s.e s.b1 s.b2 s.w s.f s.t s.l=_
 have h1:=h.1
 have h2:=h.2
 unfold impl_EqualRules.f eqRl
 simp only[impl_EqualInts.eq hk s.w (show r.w.length<1073741824 by omega),impl_EqualInts.eq hk s.f (show r.f.length<1073741824 by omega),Option.bind_some]
 cases (r.n==s.n)<;>cases (r.e==s.e)<;>cases (r.b1==s.b1)<;>cases (r.b2==s.b2)<;>cases eqI r.w s.w<;>cases eqI r.f s.f<;>cases (r.t==s.t)<;>cases (r.l==s.l)<;>rfl
abbrev EqG (F:Int->Int->Bool->Bool->List Int->List Int->Int->Int->List (List Int)->List Int->List Int->Int->Int->Int->Int->Int->Bool->Bool->List Int->List Int->Int->Int->List (List Int)->List Int->List Int->Int->Int->Int->Option Bool) (g h:Gm):Option Bool:=F g.r.n g.r.e g.r.b1 g.r.b2 g.r.w g.r.f g.r.t g.r.l g.hs g.st g.hp g.tn g.mv g.ps h.r.n h.r.e h.r.b1 h.r.b2 h.r.w h.r.f h.r.t h.r.l h.hs h.st h.hp h.tn h.mv h.ps
theorem spec_EqualGames.eq {k:Nat} (hk:BIG<=k) {g:Gm} (h:Gm) (hg:g.sm):EqG (spec_EqualGames.f k) g h=some (eqGm g h):=by
 obtain ⟨h1,h2,h3,h4⟩:=hg
 have h3:g.st.length<1048577:=h3
 have h4:g.hp.length<1048577:=h4
 have hr:=spec_EqualRules.eq hk h.r h1
 have hr:spec_EqualRules.f k g.r.n g.r.e g.r.b1 g.r.b2 g.r.w g.r.f g.r.t g.r.l h.r.n h.r.e h.r.b1 h.r.b2 h.r.w h.r.f h.r.t h.r.l=some (eqRl g.r h.r):=hr
 show spec_EqualGames.f k g.r.n g.r.e g.r.b1 g.r.b2 g.r.w g.r.f g.r.t g.r.l g.hs g.st g.hp g.tn g.mv g.ps h.r.n h.r.e h.r.b1 h.r.b2 h.r.w h.r.f h.r.t h.r.l h.hs h.st h.hp h.tn h.mv h.ps=_
 unfold spec_EqualGames.f eqGm eqII
 by_cases hl:(g.hs.length:Int)=(h.hs.length:Int)
 ·refine (bif_f (by simp[hl])).trans ((spec_EqualGames.loop hk (by omega) h2 _ _ g.hs.length 0 k (by omega) (BIG_lt hk h2.1)).trans ?_)
  rw[List.drop_zero,List.drop_zero,hr]
  simp only[spec_EqualInts.eq hk h.st (show g.st.length<1073741824 by omega),spec_EqualInts.eq hk h.hp (show g.hp.length<1073741824 by omega),Option.bind_some]
  cases decide (g.hs=h.hs)<;>cases eqRl g.r h.r<;>cases eqI g.st h.st<;>cases eqI g.hp h.hp<;>cases (g.tn==h.tn)<;>cases (g.mv==h.mv)<;>rfl
 ·rw[len_ne hl]
  refine (bif_t (by simpa using hl)).trans ?_
  cases eqRl g.r h.r<;>rfl
theorem impl_EqualGames.eq {k:Nat} (hk:BIG<=k) {g:Gm} (h:Gm) (hg:g.sm):EqG (impl_EqualGames.f k) g h=some (eqGm g h):=by
 obtain ⟨h1,h2,h3,h4⟩:=hg
 have h3:g.st.length<1048577:=h3
 have h4:g.hp.length<1048577:=h4
 have hr:=impl_EqualRules.eq hk h.r h1
 have hr:impl_EqualRules.f k g.r.n g.r.e g.r.b1 g.r.b2 g.r.w g.r.f g.r.t g.r.l h.r.n h.r.e h.r.b1 h.r.b2 h.r.w h.r.f h.r.t h.r.l=some (eqRl g.r h.r):=hr
 show impl_EqualGames.f k g.r.n g.r.e g.r.b1 g.r.b2 g.r.w g.r.f g.r.t g.r.l g.hs g.st g.hp g.tn g.mv g.ps h.r.n h.r.e h.r.b1 h.r.b2 h.r.w h.r.f h.r.t h.r.l h.hs h.st h.hp h.tn h.mv h.ps=_
 unfold impl_EqualGames.f eqGm
 rw[hr]
 simp only[impl_sameRows.eq hk h.hs h2,impl_EqualInts.eq hk h.st (show g.st.length<1073741824 by omega),impl_EqualInts.eq hk h.hp (show g.hp.length<1073741824 by omega),Option.bind_some]
 cases eqRl g.r h.r<;>cases eqII g.hs h.hs<;>cases eqI g.st h.st<;>cases eqI g.hp h.hp<;>cases (g.tn==h.tn)<;>cases (g.mv==h.mv)<;>rfl
end Go.Proofs.YtbmmhdmljajcfaaGreatDoor
