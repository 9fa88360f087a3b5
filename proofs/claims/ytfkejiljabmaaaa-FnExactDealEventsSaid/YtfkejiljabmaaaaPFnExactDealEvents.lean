/- DealEvents in plain Lean: the program's and the reference's answer alike. Conditions: enough rounds, lists of at most 2^20. -/
import Derived.Test.YtfkejiljabmaaaaKit
import Derived.Test.YtfkejiljabmaaaaXFnExactDealEvents
import Derived.Test.YtfkejiljabmaaaaFFnExactDealEvents
import Derived.Test.YtfkejiljabmaaaaPRules
import Derived.Test.YtfkejiljabmaaaaPHash
import Derived.Test.YtfkejiljabmaaaaPMarkEvents
set_option linter.unusedVariables false
set_option linter.unusedSimpArgs false
namespace Go.Proofs.Ytfkejiljabmaaaa
open Go Go.Proofs.Ytfkejiljabmaaaa.V
def dealS (salt : Int) (b : List (List Leaf) × List Int) (a : Int) : List (List Leaf) × List Int := (b.1 ++ [[.int 1, .int (hashF [(b.1.length : Int), a, salt]), .ints [], .ints []]], b.2 ++ [salt])
def evOK (y : List Leaf) : Prop := smRec y ∧ recWf [false, false, true, true] y
theorem dealF_ok {salt : Int} (hs : wfI .i64 salt) : ∀ (l : List Int) (b : List (List Leaf) × List Int), (∀ y ∈ b.1, evOK y) → (∀ x ∈ b.2, wfI .i64 x) → (∀ y ∈ (l.foldl (dealS salt) b).1, evOK y) ∧ (∀ x ∈ (l.foldl (dealS salt) b).2, wfI .i64 x) ∧ (l.foldl (dealS salt) b).1.length = b.1.length + l.length ∧ (l.foldl (dealS salt) b).2.length = b.2.length + l.length
  | [], b, h1, h2 => ⟨h1, h2, rfl, rfl⟩
  | a :: l, b, h1, h2 => by
    have hh := hashF_bd [(b.1.length : Int), a, salt]
    obtain ⟨g1, g2, g3, g4⟩ := dealF_ok hs l (dealS salt b a) (fun y hy => by
      rcases List.mem_append.1 hy with hy | hy
      · exact h1 y hy
      · obtain rfl := List.mem_singleton.1 hy
        exact ⟨smRec_cons trivial (smRec_cons trivial (smRec_cons (by simp) (smRec_cons (by simp) smRec_nil))), i64_wf (by omega), i64_wf (by omega), ⟨by simp, by simp⟩, ⟨by simp, by simp⟩, trivial⟩) (fun x hx => by
      rcases List.mem_append.1 hx with hx | hx
      · exact h2 x hx
      · obtain rfl := List.mem_singleton.1 hx; exact hs)
    refine ⟨g1, g2, ?_, ?_⟩
    · rw [List.foldl_cons, g3]; simp [dealS]; omega
    · rw [List.foldl_cons, g4]; simp [dealS]; omega
def dealEv (ok : Bool) (n : Int) (seeds : List Int) (salt : Int) : List (List Leaf) := bif ok then bif ((seeds.length : Int) != n) then [] else (seeds.foldl (dealS salt) ([], [])).1 ++ [[.int 2, .int 0, .ints seeds, .ints (seeds.foldl (dealS salt) ([], [])).2]] else []
theorem FnExactDealEvents.same {k : Nat} (hk : BIG ≤ k) (a0_0 : Int) (a0_1 : Int) (a0_2 : Bool) (a0_3 : Bool) (a0_4 : List Int) (a0_5 : List Int) (a0_6 : Int) (a0_7 : Int) (a1 : List Int) (a2 : Int) (h0 : wfI .i64 a0_0) (h1 : wfI .i64 a0_1) (h2 : a0_4.length < 1048577) (h3 : ∀ n ∈ a0_4, wfI .i64 n) (h4 : a0_5.length < 1048577) (h5 : ∀ n ∈ a0_5, wfI .i64 n) (h6 : wfI .i64 a0_6) (h7 : wfI .i64 a0_7) (h8 : a1.length < 1048577) (h9 : ∀ n ∈ a1, wfI .i64 n) (h10 : wfI .i64 a2) : ∃ r : List (List Leaf), spec_DealEvents.f k a0_0 a0_1 a0_2 a0_3 a0_4 a0_5 a0_6 a0_7 a1 a2 = some r ∧ impl_DealEvents.f k a0_0 a0_1 a0_2 a0_3 a0_4 a0_5 a0_6 a0_7 a1 a2 = some r ∧ (r.length < 1048577) ∧ (∀ y ∈ r, smRec y) ∧ (∀ y ∈ r, recWf [false, false, true, true] y) := by
  have hsm : a1.length ≤ maxLen := by show a1.length ≤ 9223372036854775807; omega
  obtain ⟨g1, g2, g3, g4⟩ := dealF_ok (salt := a2) h10 a1 ([], []) (by simp) (by simp)
  refine ⟨dealEv (isRules a0_0 a0_1 a0_2 a0_3 a0_4 a0_5 a0_6 a0_7) a0_0 a1 a2, ?_, ?_, ?_, ?_, ?_⟩
  · refine (bind_s (spec_IsRules.eq hk _ _ _ _ _ _ h2 h4)).trans ?_
    unfold dealEv
    cases isRules a0_0 a0_1 a0_2 a0_3 a0_4 a0_5 a0_6 a0_7 with
    | false => rfl
    | true =>
    cases hn : ((a1.length : Int) != a0_0) with
    | true => exact (bif_f rfl).trans (bif_t rfl)
    | false =>
    refine (bif_f rfl).trans ((bif_f rfl).trans ?_)
    have h := scan (B := List (List Leaf) × List Int) a1 (fun m b i => spec_DealEvents.l6 k a1 a2 (fun x3 x4 => chk (decide ((0 + a1.length) * 8 ≤ room)) <| chk (decide ((x3.length + 1) * 64 ≤ room)) <| some (x3 ++ ([[.int (2 : Int), .int (0 : Int), .ints ([] ++ a1), .ints x4]]))) m i b.1 b.2) (fun _ _ => true) (dealS a2) (fun b => some (b.1 ++ [[.int 2, .int 0, .ints a1, .ints b.2]])) (fun _ _ => none) (fun i b => b.1.length = i ∧ b.2.length = i)
      (fun m b i h hI => by
        obtain ⟨hI1, hI2⟩ := hI
        refine (spec_DealEvents.l6_succ ..).trans ((bif_t (dec_t (by omega))).trans ((chk_t (in_t h)).trans ?_))
        rw [Int.toNat_natCast, getD_lt _ h]
        refine (bind_s (spec_SeedSeal.eq hk ..)).trans ((chk_t (dec_t (by simp [room]; omega))).trans ((chk_t (dec_t (by simp [room]; omega))).trans ?_))
        rw [wrap_up (by omega)]
        subst hI1
        rfl)
      (fun b i h hI _ => by simp [dealS]; omega)
      (fun m b hI => (spec_DealEvents.l6_succ ..).trans ((bif_f (dec_f (by omega))).trans ((chk_t (dec_t (by simp [room]; omega))).trans ((chk_t (dec_t (by simp [room]; omega))).trans rfl))))
      a1.length 0 k ([], []) (by omega) (BIG_lt hk h8) (by simp)
    refine h.trans ?_
    rw [List.drop_zero, run_fold]
    rfl
  · refine (bind_s (impl_IsRules.eq hk _ _ _ _ _ _ h2 h4)).trans ?_
    unfold dealEv
    cases isRules a0_0 a0_1 a0_2 a0_3 a0_4 a0_5 a0_6 a0_7 with
    | false => rfl
    | true =>
    cases hn : ((a1.length : Int) != a0_0) with
    | true => exact (bif_f rfl).trans (bif_t rfl)
    | false =>
    refine (bif_f rfl).trans ((bif_f rfl).trans ?_)
    have h := scan (B := List (List Leaf) × List Int) a1 (fun m b i => impl_DealEvents.l5 k a2 a1 (a1.length : Int) (fun x3 x4 => (impl_copyOf.f k a1).bind fun r5 => chk (decide ((x3.length + 1) * 64 ≤ room)) <| some (x3 ++ ([[.int (2 : Int), .int (0 : Int), .ints r5, .ints x4]]))) m i b.1 b.2) (fun _ _ => true) (dealS a2) (fun b => some (b.1 ++ [[.int 2, .int 0, .ints a1, .ints b.2]])) (fun _ _ => none) (fun i b => b.1.length = i ∧ b.2.length = i)
      (fun m b i h hI => by
        obtain ⟨hI1, hI2⟩ := hI
        refine (impl_DealEvents.l5_succ ..).trans ((bif_t (dec_t (by omega))).trans ((chk_t (in_t h)).trans ?_))
        rw [Int.toNat_natCast, getD_lt _ h]
        refine (bind_s (impl_SeedSeal.eq hk ..)).trans ((chk_t (dec_t (by simp [room]; omega))).trans ((chk_t (dec_t (by simp [room]; omega))).trans ?_))
        rw [wrap_up (by omega)]
        subst hI1
        rfl)
      (fun b i h hI _ => by simp [dealS]; omega)
      (fun m b hI => (impl_DealEvents.l5_succ ..).trans ((bif_f (dec_f (by omega))).trans ((bind_s (impl_copyOf.eq k h8)).trans ((chk_t (dec_t (by simp [room]; omega))).trans rfl))))
      a1.length 0 k ([], []) (by omega) (BIG_lt hk h8) (by simp)
    refine h.trans ?_
    rw [List.drop_zero, run_fold]
    rfl
  · unfold dealEv
    cases hr : isRules a0_0 a0_1 a0_2 a0_3 a0_4 a0_5 a0_6 a0_7 with
    | false => simp
    | true =>
    cases hn : ((a1.length : Int) != a0_0) with
    | true => simp
    | false =>
      have h6 : (a1.length : Int) = a0_0 := by simpa using hn
      unfold isRules at hr
      simp only [Bool.and_eq_true] at hr
      have := inR_iff.1 hr.1.1.1.1.1.1
      simp only [cond_true, cond_false, List.length_append, List.length_singleton, g3, List.length_nil]
      omega
  · intro y hy
    unfold dealEv at hy
    cases hr : isRules a0_0 a0_1 a0_2 a0_3 a0_4 a0_5 a0_6 a0_7 <;> rw [hr] at hy
    · simp at hy
    cases hn : ((a1.length : Int) != a0_0) <;> rw [hn] at hy
    · rcases List.mem_append.1 hy with hy | hy
      · exact (g1 y hy).1
      · obtain rfl := List.mem_singleton.1 hy
        exact smRec_cons trivial (smRec_cons trivial (smRec_cons h8 (smRec_cons (by simp only [g4, List.length_nil]; omega) smRec_nil)))
    · simp at hy
  · intro y hy
    unfold dealEv at hy
    cases hr : isRules a0_0 a0_1 a0_2 a0_3 a0_4 a0_5 a0_6 a0_7 <;> rw [hr] at hy
    · simp at hy
    cases hn : ((a1.length : Int) != a0_0) <;> rw [hn] at hy
    · rcases List.mem_append.1 hy with hy | hy
      · exact (g1 y hy).2
      · obtain rfl := List.mem_singleton.1 hy
        exact ⟨i64_wf (by omega), i64_wf (by omega), ⟨hsm, h9⟩, ⟨by simp only [g4, List.length_nil]; show 0 + a1.length ≤ 9223372036854775807; omega, g2⟩, trivial⟩
    · simp at hy
end Go.Proofs.Ytfkejiljabmaaaa
