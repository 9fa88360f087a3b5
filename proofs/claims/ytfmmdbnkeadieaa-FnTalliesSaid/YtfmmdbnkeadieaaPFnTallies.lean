/- Tallies, in plain Lean: the law answers true. Conditions: enough rounds. -/
import Derived.Test.YtfmmdbnkeadieaaKit
import Derived.Test.YtfmmdbnkeadieaaFFnTallies
import Derived.Test.YtfmmdbnkeadieaaPTally
set_option linter.unusedVariables false
set_option linter.unusedSimpArgs false
namespace Go.Proofs.Ytfmmdbnkeadieaa
open Go Go.Proofs.Ytfmmdbnkeadieaa.V
theorem laws_FnTallies.eq {k : Nat} (hk : BIG ≤ k) {a : List Int} (_ja : a.length ≤ maxLen) (_ia : ∀ n ∈ a, wfI .u8 n) : laws_FnTallies.f k a = some true := by
  refine (bind_s rfl).trans ?_
  by_cases hb : (a.length : Int) > 1048576
  · exact bif_t (dec_t hb)
  · refine (bif_f (dec_f hb)).trans ?_
    have ha : a.length < 1048577 := by omega
    obtain ⟨g, r, e, hg, hs, _, hr⟩ := spec_DrawReplayed.ok hk ha
    have hrl : r.length < 1048577 := by omega
    obtain ⟨n, n1, n2, n3, n4⟩ := impl_LongestPlays.ok hk hrl
    obtain ⟨t, t1, t2, t3, t4⟩ := impl_TurnsOf.ok hk hrl hg hs
    have hlen := isGame_len hg
    have c1 : cntB (fun x => x == -1) r + cntB isCard r ≤ r.length := cntB_two (fun x hx => by
      have : x = -1 := by simpa using hx
      subst this; rfl) r
    have c2 := cntB_le (p := doesSkip g.r) (q := isCard) (fun x hx => doesSkip_card hx) r
    have c3 := cntB_len (fun x => x == -1) r
    have c4 := cntB_len isCard r
    have hcl : (r.filter isCard).length = cntB isCard r := rfl
    have e1 : spec_DrawCardsPlayed.f k a = some r := bind_s (bind_s e)
    have e2 : spec_DrawTurnsOf.f k a = some (g.r.n, g.r.e, g.r.b1, g.r.b2, g.r.w, g.r.f, g.r.t, g.r.l, g.hs, g.st, g.hp, g.tn, g.mv, g.ps, r) := bind_s e
    have e3 : spec_DrawSkipsIn.f k a = some (g.r.n, g.r.e, g.r.b1, g.r.b2, g.r.w, g.r.f, g.r.t, g.r.l, r) := bind_s e
    refine (bind_s e1).trans ((bind_s (impl_CardsPlayed.eq hk hrl)).trans ((bind_s n1).trans ((bind_s (impl_CountTakes.eq hk hrl)).trans ?_)))
    rw [hcl, wrap_i64 (by omega) (by omega)]
    refine (bif_f (dec_f (by omega))).trans ((bif_f (dec_f (by omega))).trans ((bif_f ?_).trans ?_))
    · have : decide (n > 0) = decide (((cntB isCard r : Nat) : Int) > 0) := by
        by_cases h0 : n = 0
        · have := n4.1 h0
          rw [dec_f (by omega), dec_f (by omega)]
        · have : cntB isCard r ≠ 0 := fun hh => h0 (n4.2 hh)
          rw [dec_t (by omega), dec_t (by omega)]
      rw [this]; simp
    · refine (bind_s e2).trans ((bind_s t1).trans ((bind_s (impl_Replayed.eq hk (l := r) (by omega) hs)).trans ((bind_s e3).trans ((bind_s (laws_sum.eq hk (by omega) (fun x hx => by have := t4 x hx; omega))).trans ?_))))
      rw [t3]
      refine (bif_t (by simp)).trans ((bif_t (by rw [t2]; simp)).trans ((bind_s (impl_SkipsIn.eq hk hs.1 hrl)).trans ((bind_s (impl_CardsPlayed.eq hk hrl)).trans ?_)))
      rw [hcl, dec_t (by omega)]
end Go.Proofs.Ytfmmdbnkeadieaa
