/- What the tellers of a loop's head say. Conditions: none. -/
import Derived.Test.YtfkejiljabmaaaaVCode
set_option linter.unusedVariables false
namespace Go.Proofs.Ytfkejiljabmaaaa.V
open Go

section
variable {R : Type} {r : R}
theorem aHead_some {vs : List AV} {K : AV → List AV → Option R} (h : aHead vs K = some r) : ∃ v vs', vs = v :: vs' ∧ K v vs' = some r := by
  cases vs with
  | nil => cases h
  | cons v vs' => exact ⟨v, vs', rfl, h⟩
theorem aNil_some {vs : List AV} {K : Option R} (h : aNil vs K = some r) : vs = [] ∧ K = some r := by
  cases vs with
  | nil => exact ⟨rfl, h⟩
  | cons v vs' => cases h
theorem hHead_some {hs : List (Option Root)} {K : Option Root → List (Option Root) → Option R} (h : hHead hs K = some r) : ∃ v vs', hs = v :: vs' ∧ K v vs' = some r := by
  cases hs with
  | nil => cases h
  | cons v vs' => exact ⟨v, vs', rfl, h⟩
theorem hNil_some {hs : List (Option Root)} {K : Option R} (h : hNil hs K = some r) : hs = [] ∧ K = some r := by
  cases hs with
  | nil => exact ⟨rfl, h⟩
  | cons v vs' => cases h
theorem vL_some {v : AV} {K : LV → Option R} (h : vL v K = some r) : ∃ x, v = .one (.l x) ∧ K x = some r := by
  unfold vL at h; split at h
  · exact ⟨_, rfl, h⟩
  · cases h
theorem vAgg_some {v : AV} {K : List LV → Option R} (h : vAgg v K = some r) : ∃ x, v = .one (.agg x) ∧ K x = some r := by
  unfold vAgg at h; split at h
  · exact ⟨_, rfl, h⟩
  · cases h
theorem cHead_some {xs : List LV} {K : LV → List LV → Option R} (h : cHead xs K = some r) : ∃ v vs', xs = v :: vs' ∧ K v vs' = some r := by
  cases xs with
  | nil => cases h
  | cons v vs' => exact ⟨v, vs', rfl, h⟩
theorem cNil_some {xs : List LV} {K : Option R} (h : cNil xs K = some r) : xs = [] ∧ K = some r := by
  cases xs with
  | nil => exact ⟨rfl, h⟩
  | cons v vs' => cases h
theorem lI_some {k : IntKind} {x : LV} {K : Int → Option R} (h : lI k x K = some r) : ∃ n, x = .i k n ∧ K n = some r := by
  unfold lI at h; split at h
  · obtain ⟨h1, h2⟩ := bif_some h
    have e := of_decide_eq_true h1
    subst e; exact ⟨_, rfl, h2⟩
  · cases h
theorem lB_some {x : LV} {K : Bool → Option R} (h : lB x K = some r) : ∃ b, x = .b b ∧ K b = some r := by
  unfold lB at h; split at h
  · exact ⟨_, rfl, h⟩
  · cases h
theorem lS_some {x : LV} {K : ByteArray → Option R} (h : lS x K = some r) : ∃ b, x = .s b ∧ K b = some r := by
  unfold lS at h; split at h
  · exact ⟨_, rfl, h⟩
  · cases h
theorem lE_some {x : LV} {K : Bool → Option R} (h : lE x K = some r) : ∃ b, x = .er b ∧ K b = some r := by
  unfold lE at h; split at h
  · exact ⟨_, rfl, h⟩
  · cases h
theorem lOwn_some {id : Nat} {x : LV} {K : Option R} (h : lOwn id x K = some r) : x = .own id ∧ K = some r := by
  unfold lOwn at h; split at h
  · obtain ⟨h1, h2⟩ := bif_some h
    have e := eq_of_beq h1
    subst e; exact ⟨rfl, h2⟩
  · cases h
theorem lSub_some {id : Nat} {x : LV} {K : Nat → Nat → Option R} (h : lSub id x K = some r) : ∃ lo hi, x = .sub id lo hi ∧ K lo hi = some r := by
  unfold lSub at h; split at h
  · obtain ⟨h1, h2⟩ := bif_some h
    have e := eq_of_beq h1
    subst e; exact ⟨_, _, rfl, h2⟩
  · cases h
theorem lPtr_some {id k : Nat} {x : LV} {K : Option R} (h : lPtr id k x K = some r) : x = .bptr id k ∧ K = some r := by
  unfold lPtr at h; split at h
  · obtain ⟨h1, h2⟩ := bif_some h
    obtain ⟨h1, h3⟩ := and_bool h1
    have e := eq_of_beq h1
    have e3 := eq_of_beq h3
    subst e; subst e3; exact ⟨rfl, h2⟩
  · cases h
theorem lArr_some {id n : Nat} {x : LV} {K : Option R} (h : lArr id n x K = some r) : x = .arr id n ∧ K = some r := by
  unfold lArr at h; split at h
  · obtain ⟨h1, h2⟩ := bif_some h
    obtain ⟨h1, h3⟩ := and_bool h1
    have e := eq_of_beq h1
    have e3 := eq_of_beq h3
    subst e; subst e3; exact ⟨rfl, h2⟩
  · cases h
theorem lAny_some {x : LV} {K : Option R} (h : lAny x K = some r) : x = .any ∧ K = some r := by
  unfold lAny at h; split at h
  · exact ⟨rfl, h⟩
  · cases h
theorem lNilS_some {x : LV} {K : Option R} (h : lNilS x K = some r) : x = .nil ∧ K = some r := by
  unfold lNilS at h; split at h
  · exact ⟨rfl, h⟩
  · cases h
theorem lVal_some {p : Bool} {x : LV} {K : Row → Option R} (h : lVal p x K = some r) : ∃ w, x = .val p w ∧ K w = some r := by
  unfold lVal at h; split at h
  · obtain ⟨h1, h2⟩ := bif_some h
    have e := eq_of_beq h1
    subst e; exact ⟨_, rfl, h2⟩
  · cases h
theorem rwInts_some {k : IntKind} {w : Row} {K : List Int → Option R} (h : rwInts k w K = some r) : ∃ l, w = .ints k l ∧ K l = some r := by
  unfold rwInts at h; split at h
  · obtain ⟨h1, h2⟩ := bif_some h
    have e := of_decide_eq_true h1
    subst e; exact ⟨_, rfl, h2⟩
  · cases h
theorem rwBools_some {w : Row} {K : List Bool → Option R} (h : rwBools w K = some r) : ∃ l, w = .bools l ∧ K l = some r := by
  unfold rwBools at h; split at h
  · exact ⟨_, rfl, h⟩
  · cases h
theorem rwStrs_some {w : Row} {K : List ByteArray → Option R} (h : rwStrs w K = some r) : ∃ l, w = .strs l ∧ K l = some r := by
  unfold rwStrs at h; split at h
  · exact ⟨_, rfl, h⟩
  · cases h
theorem rwRows_some {o : Bool} {w : Row} {K : List (List Int) → Option R} (h : rwRows o w K = some r) : ∃ l, w = .rows o l ∧ K l = some r := by
  unfold rwRows at h; split at h
  · obtain ⟨h1, h2⟩ := bif_some h
    have e := eq_of_beq h1
    subst e; exact ⟨_, rfl, h2⟩
  · cases h
theorem rwRecs_some {sg : List Bool} {o : Bool} {w : Row} {K : List (List Leaf) → Option R} (h : rwRecs sg o w K = some r) : ∃ l, w = .recs sg o l ∧ K l = some r := by
  unfold rwRecs at h; split at h
  · obtain ⟨h1, h2⟩ := bif_some h
    obtain ⟨h1, h3⟩ := and_bool h1
    have e := eq_of_beq h1
    have e3 := eq_of_beq h3
    subst e; subst e3; exact ⟨_, rfl, h2⟩
  · cases h
theorem hRow_some {x : Option Root} {K : Row → Option R} (h : hRow x K = some r) : ∃ w, x = some (.row 0 0 w) ∧ K w = some r := by
  unfold hRow at h; split at h
  · exact ⟨_, rfl, h⟩
  · cases h
theorem hBox_some {x : Option Root} {K : List LV → Option R} (h : hBox x K = some r) : ∃ cells, x = some (.box 0 cells) ∧ K cells = some r := by
  unfold hBox at h; split at h
  · exact ⟨_, rfl, h⟩
  · cases h
end
end Go.Proofs.Ytfkejiljabmaaaa.V
