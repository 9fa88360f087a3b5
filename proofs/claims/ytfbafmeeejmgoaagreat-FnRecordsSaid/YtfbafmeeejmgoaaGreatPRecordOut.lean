/- The moves of a game that plays itself, in plain Lean. Conditions: enough rounds, lists of at most 2^20. -/
import Derived.Test.YtfbafmeeejmgoaaGreatKit
import Derived.Test.YtfbafmeeejmgoaaGreatFFnRecords
import Derived.Test.YtfbafmeeejmgoaaGreatPPlayOut
set_option linter.unusedVariables false
set_option linter.unusedSimpArgs false
namespace Go.Proofs.YtfbafmeeejmgoaaGreat
open Go Go.Proofs.YtfbafmeeejmgoaaGreat.V
def recordN (kinds : List Int) : Nat → Gm → List Int
  | 0, _ => []
  | m + 1, g => bif isGame g && !overG g then choice g (kindOf kinds g.tn) :: recordN kinds m (autoMove g (kindOf kinds g.tn)).1 else []
def recordOut (g : Gm) (kinds : List Int) : List Int := recordN kinds 401 g
theorem recordN_len (kinds : List Int) : ∀ (m : Nat) (g : Gm), (recordN kinds m g).length ≤ m
  | 0, g => Nat.le_refl _
  | m + 1, g => by
    unfold recordN
    cases (isGame g && !overG g) with
    | false => simp
    | true => have := recordN_len kinds m (autoMove g (kindOf kinds g.tn)).1; simp only [cond_true, List.length_cons]; omega
theorem spec_RecordOut.loop {R : Type} {k : Nat} (hk : BIG ≤ k) (kinds : List Int) (e0 : List Int → Option R) : ∀ (m n : Nat) (g : Gm) (acc : List Int), g.sm → m < n → acc.length + m ≤ 1000 → (isGame (playN kinds m g) && !overG (playN kinds m g)) = false →
    spec_RecordOut.l2 k kinds e0 n g.r.n g.r.e g.r.b1 g.r.b2 g.r.w g.r.f g.r.t g.r.l g.hs g.st g.hp g.tn g.mv g.ps acc = e0 (acc ++ recordN kinds m g) := by
  intro m
  induction m with
  | zero =>
    intro n g acc hg hn ha hs
    obtain ⟨n, rfl⟩ : ∃ n', n = n' + 1 := ⟨n - 1, by omega⟩
    have hs : (isGame g && !overG g) = false := hs
    refine (spec_RecordOut.l2_succ ..).trans ((bind_s (spec_IsGame.eq hk hg)).trans ?_)
    unfold recordN
    rw [List.append_nil]
    cases h1 : isGame g with
    | false => rfl
    | true =>
      rw [h1] at hs
      refine (bif_t rfl).trans ((bind_s (spec_l24Over.eq hk g hg.2.1.1)).trans ?_)
      cases h2 : overG g with
      | true => rfl
      | false => rw [h2] at hs; cases hs
  | succ m ih =>
    intro n g acc hg hn ha hs
    obtain ⟨n, rfl⟩ : ∃ n', n = n' + 1 := ⟨n - 1, by omega⟩
    refine (spec_RecordOut.l2_succ ..).trans ((bind_s (spec_IsGame.eq hk hg)).trans ?_)
    unfold playN at hs
    unfold recordN
    cases h1 : isGame g with
    | false => exact (congrArg e0 (List.append_nil acc)).symm
    | true =>
      refine (bif_t rfl).trans ((bind_s (spec_l24Over.eq hk g hg.2.1.1)).trans ?_)
      cases h2 : overG g with
      | true => exact (congrArg e0 (List.append_nil acc)).symm
      | false =>
        have ht := game_turn h1
        rw [h1, h2] at hs
        have ih' := ih n _ (acc ++ [choice g (kindOf kinds g.tn)]) (autoMove_sm (kindOf kinds g.tn) hg) (by omega) (by rw [List.length_append, List.length_singleton]; omega) hs
        rw [List.append_assoc, List.singleton_append] at ih'
        refine (bif_t rfl).trans ?_
        show (bif decide (g.tn < (kinds.length : Int)) then _ else _) = _
        rcases Bool.eq_false_or_eq_true (decide (g.tn < (kinds.length : Int))) with hd | hd
        · have ek : kindOf kinds g.tn = kinds.getD g.tn.toNat 0 := by unfold kindOf; rw [hd]; rfl
          rw [ek] at ih' ⊢
          exact (bif_t hd).trans ((chk_t (and_t (dec_t ht.1) hd)).trans ((bind_s (spec_ChoiceOf.eq hk hg _)).trans ((chk_t (rm8 (by omega))).trans ((bind_s (spec_AutoMove.eq hk hg _)).trans ih'))))
        · have ek : kindOf kinds g.tn = 3 := by unfold kindOf; rw [hd]; rfl
          rw [ek] at ih' ⊢
          exact (bif_f hd).trans ((bind_s (spec_ChoiceOf.eq hk hg _)).trans ((chk_t (rm8 (by omega))).trans ((bind_s (spec_AutoMove.eq hk hg _)).trans ih')))
theorem impl_RecordOut.loop {R : Type} {k : Nat} (hk : BIG ≤ k) (kinds : List Int) (e0 : List Int → Option R) : ∀ (m n : Nat) (g : Gm) (acc : List Int), g.sm → m < n → acc.length + m ≤ 1000 → (isGame (playN kinds m g) && !overG (playN kinds m g)) = false →
    impl_RecordOut.l3 k kinds e0 n acc g.r.n g.r.e g.r.b1 g.r.b2 g.r.t g.r.l g.tn g.mv g.ps g.r.w g.r.f g.hs g.st g.hp = e0 (acc ++ recordN kinds m g) := by
  intro m
  induction m with
  | zero =>
    intro n g acc hg hn ha hs
    obtain ⟨n, rfl⟩ : ∃ n', n = n' + 1 := ⟨n - 1, by omega⟩
    have hs : (isGame g && !overG g) = false := hs
    refine (impl_RecordOut.l3_succ ..).trans ((bind_s (impl_IsGame.eq hk hg)).trans ?_)
    unfold recordN
    rw [List.append_nil]
    cases h1 : isGame g with
    | false => rfl
    | true =>
      rw [h1] at hs
      refine (bif_t rfl).trans ((bind_s (impl_IsEnded.eq hk hg)).trans ?_)
      rw [isEnded_over h1]
      cases h2 : overG g with
      | true => rfl
      | false => rw [h2] at hs; cases hs
  | succ m ih =>
    intro n g acc hg hn ha hs
    obtain ⟨n, rfl⟩ : ∃ n', n = n' + 1 := ⟨n - 1, by omega⟩
    refine (impl_RecordOut.l3_succ ..).trans ((bind_s (impl_IsGame.eq hk hg)).trans ?_)
    unfold playN at hs
    unfold recordN
    cases h1 : isGame g with
    | false => exact (congrArg e0 (List.append_nil acc)).symm
    | true =>
      refine (bif_t rfl).trans ((bind_s (impl_IsEnded.eq hk hg)).trans ?_)
      rw [isEnded_over h1]
      cases h2 : overG g with
      | true => exact (congrArg e0 (List.append_nil acc)).symm
      | false =>
        have ht := game_turn h1
        rw [h1, h2] at hs
        have ih' := ih n _ (acc ++ [choice g (kindOf kinds g.tn)]) (autoMove_sm (kindOf kinds g.tn) hg) (by omega) (by rw [List.length_append, List.length_singleton]; omega) hs
        rw [List.append_assoc, List.singleton_append] at ih'
        exact (bif_t rfl).trans ((bind_s (impl_kindAt.eq k kinds ht.1)).trans ((bind_s (impl_ChoiceOf.eq hk hg _)).trans ((bind_s (impl_ReplayMove.eq hk hg _)).trans ((chk_t (rm8 (by omega))).trans ih'))))
theorem spec_RecordOut.eq {k : Nat} (hk : BIG ≤ k) (kinds : List Int) {g : Gm} (h : g.sm) : g.ap (spec_RecordOut.f k) kinds = some (recordOut g kinds) :=
  (spec_RecordOut.loop hk kinds _ 401 k g [] h (by simp [BIG] at hk; omega) (by simp) (playOut_settled kinds g)).trans rfl
theorem impl_RecordOut.eq {k : Nat} (hk : BIG ≤ k) (kinds : List Int) {g : Gm} (h : g.sm) : g.ap (impl_RecordOut.f k) kinds = some (recordOut g kinds) :=
  (bind_s (impl_Game_copied.eq hk h)).trans ((impl_RecordOut.loop hk kinds _ 401 k g [] h (by simp [BIG] at hk; omega) (by simp) (playOut_settled kinds g)).trans rfl)
theorem recordOut_len (g : Gm) (kinds : List Int) : (recordOut g kinds).length ≤ 401 := recordN_len kinds 401 g
theorem recordOut_all {k : Nat} (hk : BIG ≤ k) (kinds : List Int) {g : Gm} (h : g.sm) : ∃ u : List Int, u.length ≤ 401 ∧ g.ap (spec_RecordOut.f k) kinds = some u ∧ g.ap (impl_RecordOut.f k) kinds = some u :=
  ⟨recordOut g kinds, recordN_len kinds 401 g, spec_RecordOut.eq hk kinds h, impl_RecordOut.eq hk kinds h⟩
end Go.Proofs.YtfbafmeeejmgoaaGreat
