/- What a pattern matches, in plain Lean. Conditions: enough rounds, lists of at most 2^20. -/
import Derived.Test.YtfbafmeeejmgoaaDoorKit
import Derived.Test.YtfbafmeeejmgoaaDoorPPattern
import Derived.Test.YtfbafmeeejmgoaaDoorPCard
set_option linter.unusedVariables false
set_option linter.unusedSimpArgs false
namespace Go.Proofs.YtfbafmeeejmgoaaDoor
open Go Go.Proofs.YtfbafmeeejmgoaaDoor.V
def valB (a c : Int) : Bool := bif a == 400 then isRed c else bif decide (a ≥ 300) then decide (rankOf c ≥ IntKind.wrap .i64 (a - 300)) else bif decide (a ≥ 200) then rankOf c == IntKind.wrap .i64 (a - 200) else suitOf c == IntKind.wrap .i64 (a - 100)
def stepS (c : Int) (st : List Bool) (a : Int) : List Bool :=
  bif a == -1 then st.set (st.length - 1) (!(st.getD (st.length - 1) false))
  else bif a == -2 then st.take (st.length - 2) ++ [bif st.getD (st.length - 2) false then st.getD (st.length - 1) false else false]
  else bif a == -3 then st.take (st.length - 2) ++ [bif st.getD (st.length - 2) false then true else st.getD (st.length - 1) false]
  else st ++ [valB a c]
theorem stepS_1 (c : Int) (st : List Bool) {a : Int} (h : a = -1) : stepS c st a = st.set (st.length - 1) (!(st.getD (st.length - 1) false)) := by subst h; rfl
theorem stepS_2 (c : Int) (st : List Bool) {a : Int} (h : a = -2) : stepS c st a = st.take (st.length - 2) ++ [bif st.getD (st.length - 2) false then st.getD (st.length - 1) false else false] := by subst h; rfl
theorem stepS_3 (c : Int) (st : List Bool) {a : Int} (h : a = -3) : stepS c st a = st.take (st.length - 2) ++ [bif st.getD (st.length - 2) false then true else st.getD (st.length - 1) false] := by subst h; rfl
theorem stepS_4 (c : Int) (st : List Bool) {a : Int} (h1 : a ≠ -1) (h2 : a ≠ -2) (h3 : a ≠ -3) : stepS c st a = st ++ [valB a c] := by
  unfold stepS
  rw [show (a == (-1 : Int)) = false by simp [h1], show (a == (-2 : Int)) = false by simp [h2], show (a == (-3 : Int)) = false by simp [h3]]
  rfl
theorem patOK_1 {d : Nat} (h : patOK (d : Int) (-1) = true) : 1 ≤ d := by
  have e : leafB (-1) = false := by decide
  unfold patOK at h; rw [e] at h; simp at h; omega
theorem patOK_2 {d : Nat} (h : patOK (d : Int) (-2) = true) : 2 ≤ d := by
  have e : leafB (-2) = false := by decide
  unfold patOK at h; rw [e] at h; simp at h; omega
theorem patOK_3 {d : Nat} (h : patOK (d : Int) (-3) = true) : 2 ≤ d := by
  have e : leafB (-3) = false := by decide
  unfold patOK at h; rw [e] at h; simp at h; omega
theorem stepS_len (c : Int) (st : List Bool) (a : Int) (h : patOK (st.length : Int) a = true) : ((stepS c st a).length : Int) = patD (st.length : Int) a := by
  by_cases h1 : a = -1
  · subst h1; rw [stepS_1 c st rfl, show patD (st.length : Int) (-1) = st.length from rfl]; simp
  · by_cases h2 : a = -2
    · subst h2; have := patOK_2 h; rw [stepS_2 c st rfl, show patD (st.length : Int) (-2) = (st.length : Int) - 1 from rfl]; simp; omega
    · by_cases h3 : a = -3
      · subst h3; have := patOK_3 h; rw [stepS_3 c st rfl, show patD (st.length : Int) (-3) = (st.length : Int) - 1 from rfl]; simp; omega
      · rw [stepS_4 c st h1 h2 h3]
        unfold patOK at h
        unfold patD
        cases e : leafB a with
        | true => simp
        | false => rw [e] at h; simp [h1, h2, h3] at h
theorem foldS_len (c : Int) : ∀ (l : List Int) (st : List Bool), okPat l (st.length : Int) = true → ((l.foldl (stepS c) st).length : Int) = 1
  | [], st, h => by simpa [okPat] using h
  | a :: l, st, h => by
    obtain ⟨h1, h2⟩ := Bool.and_eq_true_iff.1 h
    rw [List.foldl_cons]
    exact foldS_len c l _ (by rw [stepS_len c st a h1]; exact h2)
theorem wrap_dn1 {n : Nat} (h : 1 ≤ n) (h2 : n < 4611686018427387904) : IntKind.wrap .i64 ((n : Int) - 1) = ((n - 1 : Nat) : Int) := by rw [wrap_i64 (by omega) (by omega)]; omega
theorem wrap_dn2 {n : Nat} (h : 2 ≤ n) (h2 : n < 4611686018427387904) : IntKind.wrap .i64 ((n : Int) - 2) = ((n - 2 : Nat) : Int) := by rw [wrap_i64 (by omega) (by omega)]; omega
def matchB (l : List Int) (c : Int) : Bool := bif isPattern l then bif isCard c then (l.foldl (stepS c) []).getD 0 false else false else false
end Go.Proofs.YtfbafmeeejmgoaaDoor
