/- Taking cards, in plain Lean. Conditions: enough rounds, lists of at most 2^20. -/
import Derived.Test.YtfbafmeeejmgoaaGreatKit
import Derived.Test.YtfbafmeeejmgoaaGreatPPlay
set_option linter.unusedVariables false
set_option linter.unusedSimpArgs false
namespace Go.Proofs.YtfbafmeeejmgoaaGreat
open Go Go.Proofs.YtfbafmeeejmgoaaGreat.V
theorem takeN_nil (t m : Nat) (hs : List (List Int)) {st hp : List Int} (n : Nat) (h : (bif ((st.length : Int) == 0) then hp.take (hp.length - 1) else st) = []) : takeN t (m + 1) hs st hp n = (hs, [], (bif ((st.length : Int) == 0) then hp.drop (hp.length - 1) else hp), n) := by
  rw [takeN, h]
theorem takeN_cons (t m : Nat) (hs : List (List Int)) {st hp : List Int} (n : Nat) {c : Int} {st2 : List Int} (h : (bif ((st.length : Int) == 0) then hp.take (hp.length - 1) else st) = c :: st2) : takeN t (m + 1) hs st hp n = takeN t m (hs.set t (hs.getD t [] ++ [c])) st2 (bif ((st.length : Int) == 0) then hp.drop (hp.length - 1) else hp) (n + 1) := by
  rw [takeN, h]
theorem set_snoc_len {hs : List (List Int)} {t : Nat} (c : Int) (h : t < hs.length) : (hs.set t (hs.getD t [] ++ [c])).flatten.length = hs.flatten.length + 1 := by
  obtain ⟨q, q1, q2⟩ := flat_set hs t (hs.getD t [] ++ [c]) h
  rw [q1.length_eq, q2.length_eq, getD_lt _ h]
  simp only [List.length_append, List.length_singleton]
  omega
theorem getD_flat (hs : List (List Int)) (t : Nat) : (hs.getD t []).length ≤ hs.flatten.length := by
  rw [List.getD_eq_getElem?_getD]
  cases e : hs[t]? with
  | none => simp
  | some x => exact len_flat (List.mem_of_getElem? e)
theorem take_drop0 (l : List Int) (n : Nat) : [] ++ ((l.take n).drop 0) = l.take n := by simp
theorem take_all_drop (l : List Int) (n : Nat) : [] ++ ((l.take ((l.length : Int).toNat)).drop n) = l.drop n := by rw [Int.toNat_natCast, List.take_length]; rfl
/-- What both loops come to. -/
def takeE {R : Type} (e0 : Int → List (List Int) → List Int → List Int → Option R) (q : List (List Int) × List Int × List Int × Nat) : Option R := e0 (q.2.2.2 : Int) q.1 q.2.1 q.2.2.1
theorem game_total {g : Gm} (h : isGame g = true) : g.hs.flatten.length + (g.st.length + g.hp.length) = 52 := by
  have := whole_len (isGame_iff.1 h).2.2.1
  rw [isGame_flat, List.length_append, List.length_append] at this
  exact this
end Go.Proofs.YtfbafmeeejmgoaaGreat
