/- The sheet of a match, in plain Lean. Conditions: enough rounds, lists of at most 2^20. -/
import Derived.Test.YtmdfedjdnjaaiaaGreatKit
import Derived.Test.YtmdfedjdnjaaiaaGreatFFnExactMatchSheet
import Derived.Test.YtmdfedjdnjaaiaaGreatPMatchRound
set_option linter.unusedVariables false
set_option linter.unusedSimpArgs false
namespace Go.Proofs.YtmdfedjdnjaaiaaGreat
open Go Go.Proofs.YtmdfedjdnjaaiaaGreat.V
def sheetN (row : Int → List Int) : Nat → Int → List (List Int) → List (List Int)
  | 0, _, acc => acc
  | m + 1, i, acc => bif ((row i).length : Int) == 0 then [] else sheetN row m (i + 1) (acc ++ [row i])
def matchSheet (r : Rl) (seed rounds : Int) (kinds : List Int) : List (List Int) := bif inR rounds 0 20 then sheetN (fun i => matchRound r seed i kinds) rounds.toNat 0 [] else []
theorem sheetN_sm {row : Int → List Int} (h : ∀ i, (row i).length ≤ 6) : ∀ (m : Nat) (i : Int) (acc : List (List Int)), (∀ y ∈ acc, y.length ≤ 6) → (∀ y ∈ sheetN row m i acc, y.length ≤ 6) ∧ (sheetN row m i acc).length ≤ acc.length + m
  | 0, i, acc, ha => ⟨ha, Nat.le_refl _⟩
  | m + 1, i, acc, ha => by
    unfold sheetN
    cases ((row i).length : Int) == 0 with
    | true => simp
    | false =>
      obtain ⟨h1, h2⟩ := sheetN_sm h m (i + 1) (acc ++ [row i]) (fun y hy => by
        rcases List.mem_append.1 hy with hy | hy
        · exact ha y hy
        · obtain rfl := List.mem_singleton.1 hy; exact h i)
      refine ⟨h1, ?_⟩
      rw [List.length_append, List.length_singleton] at h2
      simp only [cond_false]
      omega
theorem matchSheet_sm (r : Rl) (seed rounds : Int) (kinds : List Int) : (∀ y ∈ matchSheet r seed rounds kinds, y.length ≤ 6) ∧ (matchSheet r seed rounds kinds).length ≤ 20 := by
  unfold matchSheet
  cases h : inR rounds 0 20 with
  | false => simp
  | true =>
    have := inR_iff.1 h
    obtain ⟨h1, h2⟩ := sheetN_sm (row := fun i => matchRound r seed i kinds) (fun i => matchRound_len r seed i kinds) rounds.toNat 0 [] (by simp)
    refine ⟨h1, ?_⟩
    simp only [List.length_nil, Nat.zero_add] at h2
    simp only [cond_true]
    omega
theorem spec_MatchSheet.loop {k : Nat} (hk : BIG ≤ k) {r : Rl} (hr : r.sm) (seed : Int) {rounds : Int} (kinds : List Int) (hn : 0 ≤ rounds ∧ rounds ≤ 20) : ∀ (m i n : Nat) (acc : List (List Int)), i + m = rounds.toNat → m < n → acc.length = i →
    spec_MatchSheet.l3 k seed rounds kinds r.n r.e r.b1 r.b2 r.w r.f r.t r.l (fun x2 x3 => some x2) (fun x4 => some x4) n (i : Int) acc = some (sheetN (fun i => matchRound r seed i kinds) m (i : Int) acc) := by
  intro m
  induction m with
  | zero =>
    intro i n acc hi hm ha
    obtain ⟨n, rfl⟩ : ∃ n', n = n' + 1 := ⟨n - 1, by omega⟩
    exact (spec_MatchSheet.l3_succ ..).trans (bif_f (dec_f (by omega)))
  | succ m ih =>
    intro i n acc hi hm ha
    obtain ⟨n, rfl⟩ : ∃ n', n = n' + 1 := ⟨n - 1, by omega⟩
    refine (spec_MatchSheet.l3_succ ..).trans ((bif_t (dec_t (by omega))).trans ((bif_t (dec_t (by omega))).trans ((bind_s (spec_MatchRound.eq hk hr seed _ kinds)).trans ?_)))
    unfold sheetN
    rw [wrap_up (by omega)]
    cases ((matchRound r seed (i : Int) kinds).length : Int) == 0 with
    | true => rfl
    | false =>
      refine (bif_f rfl).trans ((chk_t (rm24 (by omega))).trans ?_)
      have e : ((i + 1 : Nat) : Int) = (i : Int) + 1 := by omega
      refine (ih (i + 1) n _ (by omega) (by omega) (by simp; omega)).trans ?_
      rw [e]; rfl
theorem impl_MatchSheet.loop {k : Nat} (hk : BIG ≤ k) {r : Rl} (hr : r.sm) (seed : Int) {rounds : Int} (kinds : List Int) (hn : 0 ≤ rounds ∧ rounds ≤ 20) : ∀ (m i n : Nat) (acc : List (List Int)), i + m = rounds.toNat → m < n → acc.length = i →
    impl_MatchSheet.l5 k seed kinds rounds r.n r.e r.b1 r.b2 r.w r.f r.t r.l (fun x3 => some ([])) (fun x4 => some x4) n (i : Int) acc = some (sheetN (fun i => matchRound r seed i kinds) m (i : Int) acc) := by
  intro m
  induction m with
  | zero =>
    intro i n acc hi hm ha
    obtain ⟨n, rfl⟩ : ∃ n', n = n' + 1 := ⟨n - 1, by omega⟩
    exact (impl_MatchSheet.l5_succ ..).trans (bif_f (dec_f (by omega)))
  | succ m ih =>
    intro i n acc hi hm ha
    obtain ⟨n, rfl⟩ : ∃ n', n = n' + 1 := ⟨n - 1, by omega⟩
    refine (impl_MatchSheet.l5_succ ..).trans ((bif_t (dec_t (by omega))).trans ((bind_s (impl_MatchRound.eq hk hr seed _ kinds)).trans ?_))
    unfold sheetN
    rw [wrap_up (by omega)]
    cases ((matchRound r seed (i : Int) kinds).length : Int) == 0 with
    | true => rfl
    | false =>
      refine (bif_f rfl).trans ((chk_t (rm24 (by omega))).trans ?_)
      have e : ((i + 1 : Nat) : Int) = (i : Int) + 1 := by omega
      refine (ih (i + 1) n _ (by omega) (by omega) (by simp; omega)).trans ?_
      rw [e]; rfl
theorem spec_MatchSheet.eq {k : Nat} (hk : BIG ≤ k) {r : Rl} (hr : r.sm) (seed rounds : Int) (kinds : List Int) : r.ap (spec_MatchSheet.f k) seed rounds kinds = some (matchSheet r seed rounds kinds) := by
  unfold matchSheet
  cases h : inR rounds 0 20 with
  | true => exact spec_MatchSheet.loop hk hr seed kinds (inR_iff.1 h) rounds.toNat 0 k [] (by omega) (by have := inR_iff.1 h; simp [BIG] at hk; omega) rfl
  | false =>
    obtain ⟨k0, hk0⟩ : ∃ n', k = n' + 1 := ⟨k - 1, by simp [BIG] at hk; omega⟩
    have e : r.ap (spec_MatchSheet.f k) seed rounds kinds = spec_MatchSheet.l3 k seed rounds kinds r.n r.e r.b1 r.b2 r.w r.f r.t r.l (fun x2 x3 => some x2) (fun x4 => some x4) (k0 + 1) 0 [] := by rw [← hk0]; rfl
    refine e.trans ((spec_MatchSheet.l3_succ ..).trans ?_)
    by_cases hz : (0 : Int) < rounds
    · refine (bif_t (dec_t hz)).trans (bif_f (dec_f (fun hh => ?_)))
      rw [inR_iff.2 (⟨by omega, hh⟩ : (0 : Int) ≤ rounds ∧ rounds ≤ 20)] at h
      cases h
    · exact bif_f (dec_f hz)
theorem impl_MatchSheet.eq {k : Nat} (hk : BIG ≤ k) {r : Rl} (hr : r.sm) (seed rounds : Int) (kinds : List Int) : r.ap (impl_MatchSheet.f k) seed rounds kinds = some (matchSheet r seed rounds kinds) := by
  refine (bind_s (impl_InRange.eq ..)).trans ?_
  unfold matchSheet
  cases h : inR rounds 0 20 with
  | true => exact (bif_f rfl).trans (impl_MatchSheet.loop hk hr seed kinds (inR_iff.1 h) rounds.toNat 0 k [] (by omega) (by have := inR_iff.1 h; simp [BIG] at hk; omega) rfl)
  | false => rfl
end Go.Proofs.YtmdfedjdnjaaiaaGreat
