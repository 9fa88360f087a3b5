/- IsFairDeck in plain Lean: the program's and the reference's answer alike. Conditions: enough rounds, lists of at most 2^20. -/
import Derived.Test.YtfmmdbnkeadieaaKit
import Derived.Test.YtfmmdbnkeadieaaXFnExactIsFairDeck
import Derived.Test.YtfmmdbnkeadieaaFFnExactIsFairDeck
import Derived.Test.YtfmmdbnkeadieaaPJointDeck
import Derived.Test.YtfmmdbnkeadieaaPEqual
import Derived.Test.YtfmmdbnkeadieaaPTable
set_option linter.unusedVariables false
set_option linter.unusedSimpArgs false
namespace Go.Proofs.Ytfmmdbnkeadieaa
open Go Go.Proofs.Ytfmmdbnkeadieaa.V
def isFairDeck (t : Tb) (ss bs : List Int) : Bool := (jointDeck t.seals ss bs).2 && (t.on && eqI (jointDeck t.seals ss bs).1 t.deck)
theorem spec_IsFairDeck.eq {k : Nat} (hk : BIG ≤ k) {t : Tb} (h : t.sm) (ss bs : List Int) : t.ap (spec_IsFairDeck.f k) ss bs = some (isFairDeck t ss bs) := by
  have hl := jointDeck_len t.seals ss bs
  unfold isFairDeck
  refine (bind_s (spec_JointDeck.eq hk ss bs h.2.1)).trans ?_
  cases (jointDeck t.seals ss bs).2 with
  | false => rfl
  | true =>
    refine (bif_t rfl).trans ?_
    cases t.on with
    | false => rfl
    | true => exact (bif_t rfl).trans ((bind_s (spec_EqualInts.eq hk t.deck (by omega))).trans rfl)
theorem impl_IsFairDeck.eq {k : Nat} (hk : BIG ≤ k) {t : Tb} (h : t.sm) (ss bs : List Int) : t.ap (impl_IsFairDeck.f k) ss bs = some (isFairDeck t ss bs) := by
  have hl := jointDeck_len t.seals ss bs
  unfold isFairDeck
  refine (bind_s (impl_JointDeck.eq hk ss bs h.2.1)).trans ?_
  cases t.on with
  | false => cases (jointDeck t.seals ss bs).2 <;> rfl
  | true =>
    refine (bif_t rfl).trans ?_
    cases (jointDeck t.seals ss bs).2 with
    | false => rfl
    | true => exact (bif_t rfl).trans ((bind_s (impl_EqualInts.eq hk t.deck (by omega))).trans rfl)
set_option maxRecDepth 100000 in
theorem FnExactIsFairDeck.same {k : Nat} (hk : BIG ≤ k) (a0_0 : Int) (a0_1 : Int) (a0_2 : Bool) (a0_3 : Bool) (a0_4 : List Int) (a0_5 : List Int) (a0_6 : Int) (a0_7 : Int) (a0_8 : List Int) (a0_9 : Bool) (a0_10 : List Int) (a0_11 : Int) (a0_12 : Int) (a0_13 : Bool) (a0_14 : Bool) (a0_15 : List Int) (a0_16 : List Int) (a0_17 : Int) (a0_18 : Int) (a0_19 : List (List Int)) (a0_20 : List Int) (a0_21 : List Int) (a0_22 : Int) (a0_23 : Int) (a0_24 : Int) (a0_25 : List Int) (a0_26 : List (List Int)) (a1 : List Int) (a2 : List Int) (h0 : wfI .i64 a0_0) (h1 : wfI .i64 a0_1) (h2 : a0_4.length < 1048577) (h3 : ∀ n ∈ a0_4, wfI .i64 n) (h4 : a0_5.length < 1048577) (h5 : ∀ n ∈ a0_5, wfI .i64 n) (h6 : wfI .i64 a0_6) (h7 : wfI .i64 a0_7) (h8 : a0_8.length < 1048577) (h9 : ∀ n ∈ a0_8, wfI .i64 n) (h10 : a0_10.length < 1048577) (h11 : ∀ n ∈ a0_10, wfI .i64 n) (h12 : wfI .i64 a0_11) (h13 : wfI .i64 a0_12) (h14 : a0_15.length < 1048577) (h15 : ∀ n ∈ a0_15, wfI .i64 n) (h16 : a0_16.length < 1048577) (h17 : ∀ n ∈ a0_16, wfI .i64 n) (h18 : wfI .i64 a0_17) (h19 : wfI .i64 a0_18) (h20 : a0_19.length < 1048577) (h21 : ∀ y ∈ a0_19, y.length < 1048577) (h22 : ∀ y ∈ a0_19, ∀ n ∈ y, wfI .i64 n) (h23 : a0_20.length < 1048577) (h24 : ∀ n ∈ a0_20, wfI .i64 n) (h25 : a0_21.length < 1048577) (h26 : ∀ n ∈ a0_21, wfI .i64 n) (h27 : wfI .i64 a0_22) (h28 : wfI .i64 a0_23) (h29 : wfI .i64 a0_24) (h30 : a0_25.length < 1048577) (h31 : ∀ n ∈ a0_25, wfI .i64 n) (h32 : a0_26.length < 1048577) (h33 : ∀ y ∈ a0_26, y.length < 1048577) (h34 : ∀ y ∈ a0_26, ∀ n ∈ y, wfI .i64 n) (h35 : a1.length < 1048577) (h36 : ∀ n ∈ a1, wfI .i64 n) (h37 : a2.length < 1048577) (h38 : ∀ n ∈ a2, wfI .i64 n) : ∃ r : Bool, spec_IsFairDeck.f k a0_0 a0_1 a0_2 a0_3 a0_4 a0_5 a0_6 a0_7 a0_8 a0_9 a0_10 a0_11 a0_12 a0_13 a0_14 a0_15 a0_16 a0_17 a0_18 a0_19 a0_20 a0_21 a0_22 a0_23 a0_24 a0_25 a0_26 a1 a2 = some r ∧ impl_IsFairDeck.f k a0_0 a0_1 a0_2 a0_3 a0_4 a0_5 a0_6 a0_7 a0_8 a0_9 a0_10 a0_11 a0_12 a0_13 a0_14 a0_15 a0_16 a0_17 a0_18 a0_19 a0_20 a0_21 a0_22 a0_23 a0_24 a0_25 a0_26 a1 a2 = some r := by
  have ht : (⟨⟨a0_0, a0_1, a0_2, a0_3, a0_4, a0_5, a0_6, a0_7⟩, a0_8, a0_9, a0_10, ⟨⟨a0_11, a0_12, a0_13, a0_14, a0_15, a0_16, a0_17, a0_18⟩, a0_19, a0_20, a0_21, a0_22, a0_23, a0_24⟩, a0_25, a0_26⟩ : Tb).sm := ⟨⟨h2, h4⟩, h8, h10, ⟨⟨h14, h16⟩, ⟨h20, h21⟩, h23, h25⟩, h30, h32, h33⟩
  exact ⟨_, spec_IsFairDeck.eq hk ht a1 a2, impl_IsFairDeck.eq hk ht a1 a2⟩
end Go.Proofs.Ytfmmdbnkeadieaa
