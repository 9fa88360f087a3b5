/- Numbers as text. Conditions: enough rounds, lists of at most 2^20. -/
import Derived.Test.YtfbafmeeejmgoaaDoorKit
import Derived.Test.YtfbafmeeejmgoaaDoorFFnViews
import Derived.Test.YtfbafmeeejmgoaaDoorPJoin
import Derived.Test.YtfbafmeeejmgoaaDoorVExt
set_option linter.unusedVariables false
set_option linter.unusedSimpArgs false
namespace Go.Proofs.YtfbafmeeejmgoaaDoor
open Go Go.Proofs.YtfbafmeeejmgoaaDoor.V
def digs (u : Nat) : List UInt8 := if u = 0 then [] else Go.Lib.decDigits u
theorem digs_pos {u : Nat} (h : 0 < u) : digs u = Go.Lib.decDigits u := by unfold digs; rw [if_neg (by omega)]
theorem digs_step {u : Nat} (h : 0 < u) : digs u = digs (u / 10) ++ [UInt8.ofNat (48 + u % 10)] := by
  rw [digs_pos h]
  by_cases h10 : u < 10
  · rw [Go.Lib.decDigits_one h10, show u / 10 = 0 by omega, Nat.mod_eq_of_lt h10]; rfl
  · rw [digs_pos (u := u / 10) (by omega)]
    conv => lhs; rw [Go.Lib.decDigits, dif_neg h10]
theorem digs_len : ∀ (m u : Nat), u < 10 ^ m → (digs u).length ≤ m
  | 0, u, h => by
    have : u = 0 := by simpa using h
    subst this; exact Nat.zero_le _
  | m + 1, u, h => by
    rcases Nat.eq_zero_or_pos u with e | e
    · subst e; exact Nat.zero_le _
    · rw [Nat.pow_succ] at h
      have := digs_len m (u / 10) (by omega)
      rw [digs_step e, List.length_append, List.length_singleton]
      omega
theorem wf64 {n : Int} (h : wfI .i64 n) : -9223372036854775808 ≤ n ∧ n ≤ 9223372036854775807 := by
  simpa [wfI, Lit.wf, IntKind.min, IntKind.max, IntKind.signed, IntKind.bits] using h
theorem u8_digit {d : Nat} (h : d < 10) : strOf [IntKind.wrap .u8 (IntKind.wrap .i64 (48 + (d : Int)))] = ⟨#[UInt8.ofNat (48 + d)]⟩ := by
  have : d = 0 ∨ d = 1 ∨ d = 2 ∨ d = 3 ∨ d = 4 ∨ d = 5 ∨ d = 6 ∨ d = 7 ∨ d = 8 ∨ d = 9 := by omega
  rcases this with rfl | rfl | rfl | rfl | rfl | rfl | rfl | rfl | rfl | rfl <;> rfl
theorem tmod10 (x : Int) : x.tmod 10 = ((x.natAbs % 10 : Nat) : Int) ∨ x.tmod 10 = -((x.natAbs % 10 : Nat) : Int) := by
  rcases Int.natAbs_eq x with h | h
  · left; rw [h]; rfl
  · right; rw [h, Int.neg_tmod, Int.natAbs_neg]; rfl
theorem ba_of_append (l : List UInt8) (x : UInt8) (v : ByteArray) : (⟨(l ++ [x]).toArray⟩ : ByteArray) ++ v = (⟨l.toArray⟩ : ByteArray) ++ ((⟨#[x]⟩ : ByteArray) ++ v) := ba_ext (by
  rw [ba_append, ba_append, ba_append]
  simp)
theorem impl_FormatInt.eq (k : Nat) {n : Int} (hn : wfI .i64 n) : impl_FormatInt.f k n = some (itoaB n) := by
  have hw := wf64 hn
  exact bind_s (chk_t (and_t (dec_t hw.1) (dec_t hw.2)))
theorem itoaB_le {n : Int} (hn : wfI .i64 n) : (itoaB n).size ≤ 21 := by
  have hw := wf64 hn
  show (Go.Lib.itoa n).toArray.size ≤ 21
  rw [List.size_toArray]
  unfold Go.Lib.itoa
  have key : ∀ u : Nat, u ≤ 9223372036854775808 → (Go.Lib.decDigits u).length ≤ 20 := fun u hu => by
    rcases Nat.eq_zero_or_pos u with e | e
    · subst e; rw [Go.Lib.decDigits_one (by omega)]; simp
    · rw [← digs_pos e]
      have := digs_len 19 u (by omega)
      omega
  split
  · have := key n.natAbs (by omega)
    rw [List.length_cons]; omega
  · have := key n.toNat (by omega)
    omega
/-- Numbers as texts, joined. -/
def numsB (l : List Int) (sep : ByteArray) : ByteArray := joinB (l.map itoaB) sep
theorem nums_le {l : List Int} (hw : ∀ n ∈ l, wfI .i64 n) : ∀ y ∈ l.map itoaB, y.size ≤ 21 := fun y hy => by
  obtain ⟨n, h1, rfl⟩ := List.mem_map.1 hy
  exact itoaB_le (hw n h1)
theorem joinB_le21 {l : List ByteArray} {sep : ByteArray} (hs : ∀ y ∈ l, y.size ≤ 21) (hp : sep.size ≤ 1) : (joinB l sep).size ≤ 22 * l.length := by
  have key : ∀ i, i ≤ l.length → (joinB (l.take i) sep).size ≤ 22 * i := by
    intro i
    induction i with
    | zero => intro _; exact Nat.le_refl _
    | succ i ih =>
      intro h
      have h1 := ih (by omega)
      have h2 := hs _ (List.getElem_mem (show i < l.length by omega))
      rw [joinB_take l sep (by omega)]
      cases decide (0 < i) with
      | true => simp only [cond_true, ByteArray.size_append]; omega
      | false => simp only [cond_false]; omega
  have := key l.length (Nat.le_refl _)
  rwa [List.take_length] at this
theorem numsB_le {l : List Int} {sep : ByteArray} (hw : ∀ n ∈ l, wfI .i64 n) (hp : sep.size ≤ 1) : (numsB l sep).size ≤ 22 * l.length := by
  have := joinB_le21 (nums_le hw) hp
  rwa [List.length_map] at this
theorem foldItoa (l : List Int) : ∀ (b : List ByteArray), l.foldl (fun b a => b ++ [itoaB a]) b = b ++ l.map itoaB := by
  induction l with
  | nil => intro b; simp
  | cons a l ih => intro b; rw [List.foldl_cons, ih]; simp
theorem impl_numbersText.eq {k : Nat} (hk : BIG ≤ k) {l : List Int} {sep : ByteArray} (hl : l.length < 1048577) (hw : ∀ n ∈ l, wfI .i64 n) (hp : sep.size ≤ 1) : impl_numbersText.f k l sep = some (numsB l sep) := by
  have h := scan (B := List ByteArray) l (fun m b i => impl_numbersText.l3 k l (l.length : Int) (fun x2 => (strings_Join.f k x2 sep).bind fun r3 => some r3) m i b) (fun _ _ => true) (fun b a => b ++ [itoaB a]) (fun x2 => (strings_Join.f k x2 sep).bind fun r3 => some r3) (fun _ _ => none) (fun i b => b.length = i)
    (fun m b i h hI => by
      refine (impl_numbersText.l3_succ ..).trans ((bif_t (dec_t (by omega))).trans ((chk_t (in_t h)).trans ?_))
      rw [Int.toNat_natCast, getD_lt _ h, wrap_up (by omega)]
      exact (bind_s (impl_FormatInt.eq k (hw _ (List.getElem_mem h)))).trans (chk_t (dec_t (by simp [room]; omega))))
    (fun b i h hI _ => by simp; omega)
    (fun m b hI => (impl_numbersText.l3_succ ..).trans (bif_f (dec_f (by omega))))
    l.length 0 k [] (by omega) (BIG_lt hk hl) rfl
  refine h.trans ?_
  rw [List.drop_zero, run_fold, foldItoa, List.nil_append]
  exact bind_s (strings_Join.eq k (by simpa using hl) (fun y hy => by have := nums_le hw y hy; omega) (by omega))
/-- The reference's join of numbers. -/
def numsOr (l : List Int) (sep : ByteArray) : ByteArray := bif ((l.length : Int) == 0) then ⟨#[45]⟩ else numsB l sep
theorem impl_FormatNumbers.eq {k : Nat} (hk : BIG ≤ k) {l : List Int} (hl : l.length < 1048577) (hw : ∀ n ∈ l, wfI .i64 n) : impl_FormatNumbers.f k l = some (numsOr l ⟨#[32]⟩) := by
  unfold impl_FormatNumbers.f numsOr
  cases ((l.length : Int) == 0) with
  | true => rfl
  | false => exact (bif_f rfl).trans (bind_s (impl_numbersText.eq hk hl hw (Nat.le_refl 1)))
end Go.Proofs.YtfbafmeeejmgoaaDoor
