/- Games played to their end, in plain Lean. Conditions: enough rounds, lists of at most 2^20. -/
import Derived.Test.YtfbafmeeejmgoaaGreatKit
import Derived.Test.YtfbafmeeejmgoaaGreatFFnRecords
import Derived.Test.YtfbafmeeejmgoaaGreatPAuto
set_option linter.unusedVariables false
set_option linter.unusedSimpArgs false
namespace Go.Proofs.YtfbafmeeejmgoaaGreat
open Go Go.Proofs.YtfbafmeeejmgoaaGreat.V
theorem autoMove_sm {g : Gm} (k : Int) (h : g.sm) : (autoMove g k).1.sm := replayMove_sm h
theorem impl_kindAt.eq (k : Nat) (kinds : List Int) {t : Int} (h : 0 ≤ t) : impl_kindAt.f k kinds t = some (kindOf kinds t) := by
  unfold kindOf
  cases ht : decide (t < (kinds.length : Int)) with
  | true => exact (bif_t ht).trans (chk_t (and_t (dec_t h) ht))
  | false => exact bif_f ht
abbrev EP (R : Type) := Int → Int → Bool → Bool → Int → Int → Int → Int → Int → List Int → List Int → List (List Int) → List Int → List Int → Option R
abbrev Gm.pe {R : Type} (e0 : EP R) (g : Gm) : Option R := e0 g.r.n g.r.e g.r.b1 g.r.b2 g.r.t g.r.l g.tn g.mv g.ps g.r.w g.r.f g.hs g.st g.hp
theorem impl_PlayOut.loop {R : Type} {k : Nat} (hk : BIG ≤ k) (kinds : List Int) (e0 : EP R) : ∀ (m n : Nat) (g : Gm), g.sm → m < n → (isGame (playN kinds m g) && !overG (playN kinds m g)) = false →
    impl_PlayOut.l2 k kinds e0 n g.r.n g.r.e g.r.b1 g.r.b2 g.r.t g.r.l g.tn g.mv g.ps g.r.w g.r.f g.hs g.st g.hp = (playN kinds m g).pe e0 := by
  intro m
  induction m with
  | zero =>
    intro n g hg hn hs
    obtain ⟨n, rfl⟩ : ∃ n', n = n' + 1 := ⟨n - 1, by omega⟩
    refine (impl_PlayOut.l2_succ ..).trans ((bind_s (impl_IsGame.eq hk hg)).trans ?_)
    have hs : (isGame g && !overG g) = false := hs
    cases h1 : isGame g with
    | false => rfl
    | true =>
      rw [h1] at hs
      refine (bif_t rfl).trans ((bind_s (impl_IsEnded.eq hk hg)).trans ?_)
      rw [isEnded_over h1]
      cases h2 : overG g with
      | true => rfl
      | false => rw [h2] at hs; cases hs
  | succ m ih =>
    intro n g hg hn hs
    obtain ⟨n, rfl⟩ : ∃ n', n = n' + 1 := ⟨n - 1, by omega⟩
    refine (impl_PlayOut.l2_succ ..).trans ((bind_s (impl_IsGame.eq hk hg)).trans ?_)
    unfold playN at hs ⊢
    cases h1 : isGame g with
    | false => rfl
    | true =>
      refine (bif_t rfl).trans ((bind_s (impl_IsEnded.eq hk hg)).trans ?_)
      rw [isEnded_over h1]
      cases h2 : overG g with
      | true => rfl
      | false =>
        have ht := game_turn h1
        rw [h1, h2] at hs
        exact (bif_t rfl).trans ((bind_s (impl_kindAt.eq k kinds ht.1)).trans ((bind_s (impl_AutoMove.eq hk hg _)).trans (ih n _ (autoMove_sm _ hg) (by omega) hs)))
theorem playOut_settled (kinds : List Int) (g : Gm) : (isGame (playOut g kinds) && !overG (playOut g kinds)) = false := by
  cases h : isGame g with
  | true =>
    obtain ⟨h1, h2, _⟩ := playOut_end kinds h
    rw [h1, h2]; rfl
  | false =>
    have : playOut g kinds = g := playN_no kinds 401 (by rw [h]; rfl)
    rw [this, h]; rfl
theorem impl_PlayOut.eq {k : Nat} (hk : BIG ≤ k) (kinds : List Int) {g : Gm} (h : g.sm) : g.ap (impl_PlayOut.f k) kinds = some (playOut g kinds).tp :=
  (bind_s (impl_Game_copied.eq hk h)).trans (impl_PlayOut.loop hk kinds _ 401 k g h (by simp [BIG] at hk; omega) (playOut_settled kinds g))
theorem playN_sm (kinds : List Int) : ∀ (m : Nat) {g : Gm}, g.sm → (playN kinds m g).sm
  | 0, g, h => h
  | m + 1, g, h => by
    unfold playN
    cases (isGame g && !overG g) with
    | true => exact playN_sm kinds m (autoMove_sm _ h)
    | false => exact h
theorem playOut_sm (kinds : List Int) {g : Gm} (h : g.sm) : (playOut g kinds).sm := playN_sm kinds 401 h
end Go.Proofs.YtfbafmeeejmgoaaGreat
