/- Winners of games that play themselves. Conditions: enough rounds, lists of at most 2^20. -/
import Derived.Test.YtpdkglbbhfhlfaaGreatKit
import Derived.Test.YtpdkglbbhfhlfaaGreatFFnRuns
import Derived.Test.YtpdkglbbhfhlfaaGreatPSettle
import Derived.Test.YtpdkglbbhfhlfaaGreatPDeck
import Derived.Test.YtpdkglbbhfhlfaaGreatPDealt
import Derived.Test.YtpdkglbbhfhlfaaGreatPPlayOut
set_option linter.unusedVariables false
set_option linter.unusedSimpArgs false
namespace Go.Proofs.YtpdkglbbhfhlfaaGreat
open Go Go.Proofs.YtpdkglbbhfhlfaaGreat.V
def seedWinner (r : Rl) (kinds : List Int) (s : Int) : Int := winner (playOut (newGame r (shuffled fullDeck s)).1 kinds)
def someWinner (r : Rl) (seeds kinds : List Int) : List Int := bif r.ok && !decide ((seeds.length : Int) > 20) then seeds.map (seedWinner r kinds) else []
theorem someWinner_len (r : Rl) (seeds kinds : List Int) : (someWinner r seeds kinds).length ≤ 20 := by
  unfold someWinner
  cases h : (r.ok && !decide ((seeds.length : Int) > 20)) with
  | false => simp
  | true =>
    simp only [Bool.and_eq_true, Bool.not_eq_true', decide_eq_false_iff_not] at h
    rw [cond_true, List.length_map]
    omega
theorem shuffled_len52 (s : Int) : (shuffled fullDeck s).length < 1048577 := by rw [(shuffled_perm _ _).length_eq, fullDeck_len]; decide
theorem impl_seed {k : Nat} (hk : BIG ≤ k) {r : Rl} (hr : r.sm) (kinds : List Int) (s : Int) : ∃ (f d : List Int) (g u : Gm) (b : Bool), impl_FullDeck.f k = some f ∧ impl_Shuffled.f k f s = some d ∧ r.ap (impl_NewGame.f k) d = some (g.tpb b) ∧ g.ap (impl_PlayOut.f k) kinds = some u.tp ∧ u.ap (impl_Winner.f k) = some (seedWinner r kinds s) :=
  ⟨_, _, _, _, _, impl_FullDeck.eq hk, impl_Shuffled.eq hk s (by rw [fullDeck_len]; decide), impl_NewGame.eq hk hr (shuffled_len52 s), impl_PlayOut.eq hk kinds (newGame_sm hr _), impl_Winner.eq hk (playOut_sm kinds (newGame_sm hr _))⟩
theorem impl_SomeWinner.eq {k : Nat} (hk : BIG ≤ k) {r : Rl} (hr : r.sm) (seeds kinds : List Int) : r.ap (impl_SomeWinner.f k) seeds kinds = some (someWinner r seeds kinds) := by
  refine (bind_s (impl_rl hk hr)).trans ?_
  unfold someWinner
  cases r.ok with
  | false => rfl
  | true =>
    refine (bif_f rfl).trans ?_
    by_cases h20 : (seeds.length : Int) > 20
    · rw [dec_t h20]; rfl
    · rw [dec_f h20]
      refine (bif_f rfl).trans ?_
      have h := scan (B := List Int) seeds (fun m b i => impl_SomeWinner.l5 k kinds seeds (seeds.length : Int) r.n r.e r.b1 r.b2 r.w r.f r.t r.l (fun x7 => some x7) m i b) (fun _ _ => true) (fun b a => b ++ [seedWinner r kinds a]) (fun x7 => some x7) (fun _ _ => none) (fun i b => b.length = i)
        (fun m b i h hI => by
          obtain ⟨f, d, g, u, b', e1, e2, e3, e4, e5⟩ := impl_seed hk hr kinds seeds[i]
          refine (impl_SomeWinner.l5_succ ..).trans ((bif_t (dec_t (by omega))).trans ((chk_t (in_t h)).trans ?_))
          rw [Int.toNat_natCast, getD_lt _ h, wrap_up (by omega)]
          generalize seedWinner r kinds seeds[i] = w at e5 ⊢
          exact (bind_s e1).trans ((bind_s e2).trans ((bind_s e3).trans ((bind_s e4).trans ((bind_s e5).trans (chk_t (rm8 (by omega))))))))
        (fun b i h hI _ => by simp; omega)
        (fun m b hI => (impl_SomeWinner.l5_succ ..).trans (bif_f (dec_f (by omega))))
        seeds.length 0 k [] (by omega) (by simp [BIG] at hk; omega) rfl
      refine h.trans ?_
      rw [List.drop_zero, run_fold, foldl_snoc, List.nil_append]
      rfl
end Go.Proofs.YtpdkglbbhfhlfaaGreat
