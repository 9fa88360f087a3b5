/- Cards that are dealt, new games, in plain Lean. Conditions: enough rounds, lists of at most 2^20. -/
import Derived.Test.YtfbafmeeejmgoaaGreatKit
import Derived.Test.YtfbafmeeejmgoaaGreatPCopies
import Derived.Test.YtfbafmeeejmgoaaGreatPGame
set_option linter.unusedVariables false
set_option linter.unusedSimpArgs false
namespace Go.Proofs.YtfbafmeeejmgoaaGreat
open Go Go.Proofs.YtfbafmeeejmgoaaGreat.V
/-- The cards that hand p has of the first q. -/
def handAt (d : List Int) (n q p : Nat) : List Int := (List.range ((q + n - 1 - p) / n)).map fun i => d.getD (i * n + p) 0
def handsAt (d : List Int) (n q : Nat) : List (List Int) := (List.range n).map (handAt d n q)
def dealt (d : List Int) (n e : Nat) : List (List Int) := (List.range n).map fun p => (List.range e).map fun i => d.getD (i * n + p) 0
def dealP (n : Nat) (b : List (List Int) × Nat) (c : Int) : List (List Int) × Nat := (b.1.set (b.2 % n) (b.1.getD (b.2 % n) [] ++ [c]), b.2 + 1)
theorem cnt_step {n q p : Nat} (h1 : 1 ≤ n) (h2 : n ≤ 6) (hp : p < n) : (q + 1 + n - 1 - p) / n = if p = q % n then (q + n - 1 - p) / n + 1 else (q + n - 1 - p) / n := by
  have : n = 1 ∨ n = 2 ∨ n = 3 ∨ n = 4 ∨ n = 5 ∨ n = 6 := by omega
  rcases this with rfl | rfl | rfl | rfl | rfl | rfl <;> split <;> omega
theorem cnt_at {n q : Nat} (h1 : 1 ≤ n) (h2 : n ≤ 6) : (q + n - 1 - q % n) / n * n + q % n = q := by
  have : n = 1 ∨ n = 2 ∨ n = 3 ∨ n = 4 ∨ n = 5 ∨ n = 6 := by omega
  rcases this with rfl | rfl | rfl | rfl | rfl | rfl <;> omega
theorem cnt_end {n e p : Nat} (h1 : 1 ≤ n) (h2 : n ≤ 6) (hp : p < n) : (n * e + n - 1 - p) / n = e := by
  have : n = 1 ∨ n = 2 ∨ n = 3 ∨ n = 4 ∨ n = 5 ∨ n = 6 := by omega
  rcases this with rfl | rfl | rfl | rfl | rfl | rfl <;> omega
theorem handsAt_step {d : List Int} {n q : Nat} (h1 : 1 ≤ n) (h2 : n ≤ 6) (hq : q < d.length) : (handsAt d n q).set (q % n) ((handsAt d n q).getD (q % n) [] ++ [d[q]]) = handsAt d n (q + 1) := by
  have hm : q % n < n := Nat.mod_lt _ (by omega)
  have e1 : (handsAt d n q).getD (q % n) [] = handAt d n q (q % n) := by
    rw [getD_lt _ (by simpa [handsAt] using hm)]; simp [handsAt]
  rw [e1]
  refine List.ext_getElem (by simp [handsAt]) (fun p hp1 hp2 => ?_)
  have hp : p < n := by simpa [handsAt] using hp2
  rw [List.getElem_set]
  have e2 : (handsAt d n (q + 1))[p] = handAt d n (q + 1) p := by simp [handsAt]
  rw [e2]
  unfold handAt
  rw [cnt_step h1 h2 hp]
  by_cases hpq : q % n = p
  · subst hpq
    rw [if_pos rfl, if_pos rfl, List.range_succ, List.map_append]
    simp only [List.map_cons, List.map_nil]
    rw [cnt_at h1 h2, getD_lt _ hq]
  · rw [if_neg hpq, if_neg (fun e => hpq e.symm)]
    simp [handsAt, handAt]
theorem deal_fold {d : List Int} {n : Nat} (h1 : 1 ≤ n) (h2 : n ≤ 6) : ∀ (q : Nat), q ≤ d.length → (d.take q).foldl (dealP n) (List.replicate n [], 0) = (handsAt d n q, q)
  | 0, _ => by
    have e : handsAt d n 0 = List.replicate n [] := by
      refine List.ext_getElem (by simp [handsAt]) (fun p hp1 hp2 => ?_)
      have hp : p < n := by simpa using hp2
      simp only [handsAt, handAt, List.getElem_map, List.getElem_range, List.getElem_replicate]
      rw [show (0 + n - 1 - p) / n = 0 from Nat.div_eq_of_lt (by omega)]
      rfl
    rw [e]; rfl
  | q + 1, h => by
    rw [List.take_succ_eq_append_getElem (by omega), List.foldl_append, deal_fold h1 h2 q (by omega)]
    show dealP n (handsAt d n q, q) d[q] = _
    unfold dealP
    rw [handsAt_step h1 h2 (by omega)]
theorem handsAt_end {d : List Int} {n e : Nat} (h1 : 1 ≤ n) (h2 : n ≤ 6) : handsAt d n (n * e) = dealt d n e := by
  unfold handsAt dealt
  refine List.map_congr_left (fun p hp => ?_)
  unfold handAt
  rw [cnt_end h1 h2 (List.mem_range.1 hp)]
theorem deal_perm {n : Nat} (h1 : 1 ≤ n) : ∀ (l : List Int) (b : List (List Int) × Nat), b.1.length = n → ((l.foldl (dealP n) b).1.flatten).Perm (b.1.flatten ++ l)
  | [], b, _ => by simp
  | c :: l, b, h => by
    have hm : b.2 % n < b.1.length := by rw [h]; exact Nat.mod_lt _ (by omega)
    rw [List.foldl_cons]
    refine (deal_perm h1 l _ (by simpa [dealP] using h)).trans ?_
    obtain ⟨q, q1, q2⟩ := flat_set b.1 (b.2 % n) (b.1.getD (b.2 % n) [] ++ [c]) hm
    show ((b.1.set (b.2 % n) (b.1.getD (b.2 % n) [] ++ [c])).flatten ++ l).Perm _
    refine (q2.append_right l).trans (List.Perm.trans ?_ (q1.append_right (c :: l)).symm)
    rw [getD_lt _ hm]
    have e1 : b.1[b.2 % n] ++ [c] ++ q ++ l = b.1[b.2 % n] ++ ([c] ++ (q ++ l)) := by simp
    have e2 : b.1[b.2 % n] ++ q ++ c :: l = b.1[b.2 % n] ++ (q ++ ([c] ++ l)) := by simp
    rw [e1, e2]
    exact List.Perm.append_left _ (List.perm_append_comm_assoc _ _ _)
theorem dealt_perm {d : List Int} {n e : Nat} (h1 : 1 ≤ n) (h2 : n ≤ 6) (h : n * e ≤ d.length) : (dealt d n e).flatten.Perm (d.take (n * e)) := by
  have := deal_perm h1 (d.take (n * e)) (List.replicate n [], 0) (by simp)
  rw [deal_fold h1 h2 _ h, handsAt_end h1 h2] at this
  simpa using this
theorem dealt_len (d : List Int) (n e : Nat) : (dealt d n e).length = n := by simp [dealt]
theorem dealt_mem {d : List Int} {n e : Nat} {y : List Int} (h : y ∈ dealt d n e) : y.length = e := by
  unfold dealt at h
  obtain ⟨p, _, rfl⟩ := List.mem_map.1 h
  simp
/-! ### The program's deal -/
theorem mul_le_120 {n e : Nat} (h1 : n ≤ 6) (h2 : e ≤ 20) : n * e ≤ 120 := Nat.mul_le_mul h1 h2
/-! ### The reference's deal -/
theorem upN_map {α : Type} (f : Nat → α) : ∀ (m i : Nat) (b : List α), upN (fun i b => b ++ [f i]) m i b = b ++ (List.range' i m).map f
  | 0, i, b => by simp [upN]
  | m + 1, i, b => by
    show upN (fun i b => b ++ [f i]) m (i + 1) (b ++ [f i]) = _
    rw [upN_map f m (i + 1), List.range'_succ, List.map_cons, List.append_assoc]
    rfl
theorem upN_map0 {α : Type} (f : Nat → α) (m : Nat) : upN (fun i b => b ++ [f i]) m 0 [] = (List.range m).map f := by
  rw [upN_map, List.nil_append, List.range_eq_range']
/-! ### New games -/
def zeroG : Gm := ⟨⟨0, 0, false, false, [], [], 0, 0⟩, [], [], [], 0, 0, 0⟩
def newGame (r : Rl) (d : List Int) : Gm × Bool := bif r.ok && isHand d && ((d.length : Int) == 52) then (⟨r, dealt d r.n.toNat r.e.toNat, (d.drop (r.n.toNat * r.e.toNat)).drop 1, (d.drop (r.n.toNat * r.e.toNat)).take 1, 0, 0, 0⟩, true) else (zeroG, false)
theorem newGame_bd {r : Rl} (h : r.ok = true) : r.n.toNat * r.e.toNat ≤ 48 ∧ 1 ≤ r.n.toNat ∧ r.n.toNat ≤ 6 ∧ r.e.toNat ≤ 8 ∧ r.n = (r.n.toNat : Int) ∧ r.e = (r.e.toNat : Int) := by
  have := rl_ok h
  exact ⟨Nat.mul_le_mul (show r.n.toNat ≤ 6 by omega) (show r.e.toNat ≤ 8 by omega), by omega, by omega, by omega, by omega, by omega⟩
theorem zeroG_game : isGame zeroG = false := by decide +kernel
theorem zeroG_sm : zeroG.sm := ⟨⟨by decide, by decide⟩, ⟨by decide, fun y hy => by cases hy⟩, by decide, by decide⟩
theorem newGame_game {r : Rl} {d : List Int} (h : (newGame r d).2 = true) : isGame (newGame r d).1 = true ∧ (newGame r d).1.r = r := by
  unfold newGame at h ⊢
  cases hc : (r.ok && isHand d && ((d.length : Int) == 52)) with
  | false => rw [hc] at h; cases h
  | true =>
    simp only [Bool.and_eq_true, beq_iff_eq] at hc
    obtain ⟨⟨h1, h2⟩, h3⟩ := hc
    obtain ⟨b1, b2, b3, b4, b5, b6⟩ := newGame_bd h1
    have hrl := rl_ok h1
    refine ⟨isGame_iff.2 ⟨h1, by show ((dealt _ _ _).length : Int) = r.n; rw [dealt_len]; omega, ?_, by show 0 < ((d.drop _).take 1).length; simp; omega, ⟨by show (0 : Int) ≤ 0; omega, by show (0 : Int) ≤ r.n - 1; omega⟩, ⟨by show (0 : Int) ≤ 0; omega, by show (0 : Int) ≤ r.l; omega⟩, ⟨by show (0 : Int) ≤ 0; omega, by show (0 : Int) ≤ 0; omega⟩⟩, rfl⟩
    show whole (dealt d r.n.toNat r.e.toNat ++ [(d.drop (r.n.toNat * r.e.toNat)).drop 1, (d.drop (r.n.toNat * r.e.toNat)).take 1]) = true
    have hp : (dealt d r.n.toNat r.e.toNat ++ [(d.drop (r.n.toNat * r.e.toNat)).drop 1, (d.drop (r.n.toNat * r.e.toNat)).take 1]).flatten.Perm d := by
      rw [List.flatten_append]
      simp only [List.flatten_cons, List.flatten_nil, List.append_nil]
      refine ((dealt_perm b2 b3 (by omega)).append_right _).trans ?_
      refine (List.Perm.append_left _ List.perm_append_comm).trans ?_
      rw [List.take_append_drop, List.take_append_drop]
    unfold whole
    rw [isHand_perm hp, hp.length_eq, h2, h3]
    rfl
theorem newGame_sm {r : Rl} (hr : r.sm) (d : List Int) : (newGame r d).1.sm := by
  cases h : (newGame r d).2 with
  | true =>
    obtain ⟨h1, h2⟩ := newGame_game h
    exact isGame_sm h1 (by rw [h2]; exact hr)
  | false =>
    unfold newGame at h ⊢
    cases hc : (r.ok && isHand d && ((d.length : Int) == 52)) with
    | false => exact zeroG_sm
    | true => rw [hc] at h; cases h
theorem take_one {l : List Int} (h : 0 < l.length) : [l.getD 0 0] = l.take 1 := by
  cases l with
  | nil => simp at h
  | cons a l => rfl
end Go.Proofs.YtfbafmeeejmgoaaGreat
