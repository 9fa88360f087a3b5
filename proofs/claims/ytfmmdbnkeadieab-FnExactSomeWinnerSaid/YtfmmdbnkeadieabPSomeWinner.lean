/- Winners of games that play themselves. Conditions: enough rounds, lists of at most 2^20. -/
import Derived.Test.YtfmmdbnkeadieabKit
import Derived.Test.YtfmmdbnkeadieabFFnExactSomeWinner
import Derived.Test.YtfmmdbnkeadieabPSettle
import Derived.Test.YtfmmdbnkeadieabPDeck
import Derived.Test.YtfmmdbnkeadieabPDealt
import Derived.Test.YtfmmdbnkeadieabPPlayOut
set_option linter.unusedVariables false
set_option linter.unusedSimpArgs false
namespace Go.Proofs.Ytfmmdbnkeadieab
open Go Go.Proofs.Ytfmmdbnkeadieab.V
def seedWinner (r : Rl) (kinds : List Int) (s : Int) : Int := winner (playOut (newGame r (shuffled fullDeck s)).1 kinds)
def someWinner (r : Rl) (seeds kinds : List Int) : List Int := bif r.ok && !decide ((seeds.length : Int) > 20) then seeds.map (seedWinner r kinds) else []
theorem someWinner_len (r : Rl) (seeds kinds : List Int) : (someWinner r seeds kinds).length ≤ 20 := by
  unfold someWinner
  cases h : (r.ok && !decide ((seeds.length : Int) > 20)) with
  | false => simp
  | true =>
    simp only [Bool.and_eq_true, Bool.not_eq_true', decide_eq_false_iff_not] at h
    rw [cond_true, List.length_map]
    omega
theorem shuffled_len52 (s : Int) : (shuffled fullDeck s).length < 1048577 := by rw [(shuffled_perm _ _).length_eq, fullDeck_len]; decide
theorem impl_seed {k : Nat} (hk : BIG ≤ k) {r : Rl} (hr : r.sm) (kinds : List Int) (s : Int) : ∃ (f d : List Int) (g u : Gm) (b : Bool), impl_FullDeck.f k = some f ∧ impl_Shuffled.f k f s = some d ∧ r.ap (impl_NewGame.f k) d = some (g.tpb b) ∧ g.ap (impl_PlayOut.f k) kinds = some u.tp ∧ u.ap (impl_Winner.f k) = some (seedWinner r kinds s) :=
  ⟨_, _, _, _, _, impl_FullDeck.eq hk, impl_Shuffled.eq hk s (by rw [fullDeck_len]; decide), impl_NewGame.eq hk hr (shuffled_len52 s), impl_PlayOut.eq hk kinds (newGame_sm hr _), impl_Winner.eq hk (playOut_sm kinds (newGame_sm hr _))⟩
theorem impl_SomeWinner.eq {k : Nat} (hk : BIG ≤ k) {r : Rl} (hr : r.sm) (seeds kinds : List Int) : r.ap (impl_SomeWinner.f k) seeds kinds = some (someWinner r seeds kinds) := by
  refine (bind_s (impl_rl hk hr)).trans ?_
  unfold someWinner
  cases r.ok with
  | false => rfl
  | true =>
    refine (bif_f rfl).trans ?_
    by_cases h20 : (seeds.length : Int) > 20
    · rw [dec_t h20]; rfl
    · rw [dec_f h20]
      refine (bif_f rfl).trans ?_
      have h := scan (B := List Int) seeds (fun m b i => impl_SomeWinner.l5 k kinds seeds (seeds.length : Int) r.n r.e r.b1 r.b2 r.w r.f r.t r.l (fun x7 => some x7) m i b) (fun _ _ => true) (fun b a => b ++ [seedWinner r kinds a]) (fun x7 => some x7) (fun _ _ => none) (fun i b => b.length = i)
        (fun m b i h hI => by
          obtain ⟨f, d, g, u, b', e1, e2, e3, e4, e5⟩ := impl_seed hk hr kinds seeds[i]
          refine (impl_SomeWinner.l5_succ ..).trans ((bif_t (dec_t (by omega))).trans ((chk_t (in_t h)).trans ?_))
          rw [Int.toNat_natCast, getD_lt _ h, wrap_up (by omega)]
          generalize seedWinner r kinds seeds[i] = w at e5 ⊢
          exact (bind_s e1).trans ((bind_s e2).trans ((bind_s e3).trans ((bind_s e4).trans ((bind_s e5).trans (chk_t (rm8 (by omega))))))))
        (fun b i h hI _ => by simp; omega)
        (fun m b hI => (impl_SomeWinner.l5_succ ..).trans (bif_f (dec_f (by omega))))
        seeds.length 0 k [] (by omega) (by simp [BIG] at hk; omega) rfl
      refine h.trans ?_
      rw [List.drop_zero, run_fold, foldl_snoc, List.nil_append]
      rfl
theorem spec_seed {k : Nat} (hk : BIG ≤ k) {r : Rl} (hr : r.sm) (kinds : List Int) (s : Int) : ∃ (f d : List Int) (g u : Gm) (b : Bool), spec_FullDeck.f k = some f ∧ spec_Shuffled.f k f s = some d ∧ r.ap (spec_NewGame.f k) d = some (g.tpb b) ∧ g.ap (spec_PlayOut.f k) kinds = some u.tp ∧ u.ap (spec_Winner.f k) = some (seedWinner r kinds s) :=
  ⟨_, _, _, _, _, spec_FullDeck.eq hk, spec_Shuffled.eq hk s (by rw [fullDeck_len]; decide), spec_NewGame.eq hk hr (shuffled_len52 s), spec_PlayOut.eq hk kinds (newGame_sm hr _), spec_Winner.eq hk (playOut_sm kinds (newGame_sm hr _))⟩
theorem spec_SomeWinner.eq {k : Nat} (hk : BIG ≤ k) {r : Rl} (hr : r.sm) (seeds kinds : List Int) : r.ap (spec_SomeWinner.f k) seeds kinds = some (someWinner r seeds kinds) := by
  have stop : ∀ (c : Bool) (v : List Int), (r.ok && !decide ((seeds.length : Int) > 20)) = false → seeds ≠ [] → spec_SomeWinner.l3 k seeds kinds r.n r.e r.b1 r.b2 r.w r.f r.t r.l (fun x7 => some x7) k 0 v = some v := fun c v hc hs => by
    have hl : 0 < seeds.length := List.length_pos_iff.2 hs
    obtain ⟨k', hk'⟩ : ∃ k', k = k' + 1 := ⟨k - 1, by simp [BIG] at hk; omega⟩
    have h0 : spec_SomeWinner.l3 k seeds kinds r.n r.e r.b1 r.b2 r.w r.f r.t r.l (fun x7 => some x7) (k' + 1) 0 v = some v := by
      refine (spec_SomeWinner.l3_succ ..).trans ((bif_t (dec_t (by omega))).trans ((bind_s (spec_rl hk hr)).trans ?_))
      cases hb : r.ok with
      | false => rfl
      | true =>
        rw [hb, Bool.true_and, Bool.not_eq_false'] at hc
        have := of_decide_eq_true hc
        exact (bif_t rfl).trans ((bif_f (dec_f (by omega))).trans rfl)
    rw [← hk'] at h0
    exact h0
  unfold someWinner
  cases hc : (r.ok && !decide ((seeds.length : Int) > 20)) with
  | false =>
    by_cases hs : seeds = []
    · subst hs
      obtain ⟨k', hk'⟩ : ∃ k', k = k' + 1 := ⟨k - 1, by simp [BIG] at hk; omega⟩
      have h0 : spec_SomeWinner.l3 k [] kinds r.n r.e r.b1 r.b2 r.w r.f r.t r.l (fun x7 => some x7) (k' + 1) 0 [] = some [] := (spec_SomeWinner.l3_succ ..).trans (bif_f (dec_f (by simp)))
      rw [← hk'] at h0
      exact h0
    · exact stop true [] hc hs
  | true =>
    simp only [Bool.and_eq_true, Bool.not_eq_true', decide_eq_false_iff_not] at hc
    have h := scan (B := List Int) seeds (fun m b i => spec_SomeWinner.l3 k seeds kinds r.n r.e r.b1 r.b2 r.w r.f r.t r.l (fun x7 => some x7) m i b) (fun _ _ => true) (fun b a => b ++ [seedWinner r kinds a]) (fun x7 => some x7) (fun _ _ => none) (fun i b => b.length = i)
      (fun m b i h hI => by
        obtain ⟨f, d, g, u, b', e1, e2, e3, e4, e5⟩ := spec_seed hk hr kinds seeds[i]
        refine (spec_SomeWinner.l3_succ ..).trans ((bif_t (dec_t (by omega))).trans ((bind_s (spec_rl hk hr)).trans ((bif_t hc.1).trans ((bif_t (dec_t (by omega))).trans ((bind_s e1).trans ((chk_t (in_t h)).trans ?_))))))
        rw [Int.toNat_natCast, getD_lt _ h, wrap_up (by omega)]
        generalize seedWinner r kinds seeds[i] = w at e5 ⊢
        exact (bind_s e2).trans ((bind_s e3).trans ((bind_s e4).trans ((bind_s e5).trans (chk_t (rm8 (by omega)))))))
      (fun b i h hI _ => by simp; omega)
      (fun m b hI => (spec_SomeWinner.l3_succ ..).trans (bif_f (dec_f (by omega))))
      seeds.length 0 k [] (by omega) (by simp [BIG] at hk; omega) rfl
    refine h.trans ?_
    rw [List.drop_zero, run_fold, foldl_snoc, List.nil_append]
    rfl
end Go.Proofs.Ytfmmdbnkeadieab
