/- Comparing lists, rules and games, in plain Lean. Conditions: enough rounds, lists of at most 2^20. -/
import Derived.Test.YtfbafmeeejmgoaaDoorKit
import Derived.Test.YtfbafmeeejmgoaaDoorFFnViews
import Derived.Test.YtfbafmeeejmgoaaDoorPModel
set_option linter.unusedVariables false
set_option linter.unusedSimpArgs false
namespace Go.Proofs.YtfbafmeeejmgoaaDoor
open Go Go.Proofs.YtfbafmeeejmgoaaDoor.V
theorem cons_dec {α : Type} [DecidableEq α] (x y : α) (s t : List α) : decide (x :: s = y :: t) = (decide (x = y) && decide (s = t)) := by
  by_cases h1 : x = y
  · subst h1
    by_cases h2 : s = t
    · subst h2; simp
    · simp [h2]
  · simp [h1]
theorem drop_eq_dec {α : Type} [DecidableEq α] {a b : List α} {i : Nat} (ha : i < a.length) (hb : i < b.length) : decide (a.drop i = b.drop i) = (decide (a[i] = b[i]) && decide (a.drop (i + 1) = b.drop (i + 1))) := by
  rw [← cons_dec]
  congr 1
  rw [drop_cons ha, drop_cons hb]
theorem impl_EqualInts.loop {R : Type} (k : Nat) {a b : List Int} (h : a.length = b.length) (hl : a.length < 1073741824) (e0 e1 : Option R) : ∀ (m i n : Nat), i + m = a.length → m < n → impl_EqualInts.l4 k a b (a.length : Int) e0 e1 n (i : Int) = bif decide (a.drop i = b.drop i) then e1 else e0 := by
  intro m
  induction m with
  | zero =>
    intro i n hi hn
    obtain ⟨n, rfl⟩ : ∃ n', n = n' + 1 := ⟨n - 1, by omega⟩
    rw [List.drop_eq_nil_of_le (by omega), List.drop_eq_nil_of_le (by omega)]
    exact (impl_EqualInts.l4_succ ..).trans (bif_f (dec_f (by omega)))
  | succ m ih =>
    intro i n hi hn
    obtain ⟨n, rfl⟩ : ∃ n', n = n' + 1 := ⟨n - 1, by omega⟩
    have ha : i < a.length := by omega
    have hb : i < b.length := by omega
    refine (impl_EqualInts.l4_succ ..).trans ((bif_t (dec_t (by omega))).trans ((chk_t (in_t ha)).trans ((chk_t (in_t hb)).trans ?_)))
    rw [Int.toNat_natCast, getD_lt (l := a) _ ha, getD_lt (l := b) _ hb, wrap_up (by omega), ih (i + 1) n (by omega) (by omega), drop_eq_dec ha hb]
    by_cases h1 : a[i] = b[i]
    · rw [dec_t h1]
      exact (bif_f (by simp [h1])).trans (by simp)
    · rw [dec_f h1]
      exact (bif_t (by simp [h1])).trans rfl
def eqI (a b : List Int) : Bool := decide (a = b)
theorem len_ne {α : Type} [DecidableEq α] {a b : List α} (h : ¬ ((a.length : Int) = (b.length : Int))) : decide (a = b) = false := dec_f (fun e => h (by rw [e]))
theorem impl_EqualInts.eq {k : Nat} (hk : BIG ≤ k) {a : List Int} (b : List Int) (hl : a.length < 1073741824) : impl_EqualInts.f k a b = some (eqI a b) := by
  unfold eqI
  by_cases h : (a.length : Int) = (b.length : Int)
  · refine (bif_f (by simp [h])).trans ((impl_EqualInts.loop k (by omega) hl _ _ a.length 0 k (by omega) (BIG_lt' hk hl)).trans ?_)
    rw [List.drop_zero, List.drop_zero]
    cases decide (a = b) <;> rfl
  · rw [len_ne h]
    exact (bif_t (by simpa using h)).trans rfl
/-! ### Rows -/
def eqII (a b : List (List Int)) : Bool := decide (a = b)
/-! ### Rules, games -/
def eqRl (r s : Rl) : Bool := (r.n == s.n) && (r.e == s.e) && (r.b1 == s.b1) && (r.b2 == s.b2) && eqI r.w s.w && eqI r.f s.f && (r.t == s.t) && (r.l == s.l)
def eqGm (g h : Gm) : Bool := eqRl g.r h.r && eqII g.hs h.hs && eqI g.st h.st && eqI g.hp h.hp && (g.tn == h.tn) && (g.mv == h.mv) && (g.ps == h.ps)
abbrev EqG (F : Int → Int → Bool → Bool → List Int → List Int → Int → Int → List (List Int) → List Int → List Int → Int → Int → Int → Int → Int → Bool → Bool → List Int → List Int → Int → Int → List (List Int) → List Int → List Int → Int → Int → Int → Option Bool) (g h : Gm) : Option Bool := F g.r.n g.r.e g.r.b1 g.r.b2 g.r.w g.r.f g.r.t g.r.l g.hs g.st g.hp g.tn g.mv g.ps h.r.n h.r.e h.r.b1 h.r.b2 h.r.w h.r.f h.r.t h.r.l h.hs h.st h.hp h.tn h.mv h.ps
end Go.Proofs.YtfbafmeeejmgoaaDoor
