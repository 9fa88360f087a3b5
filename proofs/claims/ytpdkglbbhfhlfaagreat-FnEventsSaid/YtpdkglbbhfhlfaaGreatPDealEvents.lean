/- Events that deal, in plain Lean: the reference's side. Conditions: enough rounds, lists of at most 2^20. -/
import Derived.Test.YtpdkglbbhfhlfaaGreatKit
import Derived.Test.YtpdkglbbhfhlfaaGreatFFnEvents
import Derived.Test.YtpdkglbbhfhlfaaGreatPGame
import Derived.Test.YtpdkglbbhfhlfaaGreatPSeal
set_option linter.unusedVariables false
set_option linter.unusedSimpArgs false
namespace Go.Proofs.YtpdkglbbhfhlfaaGreat
open Go Go.Proofs.YtpdkglbbhfhlfaaGreat.V
def dealS (salt : Int) (b : List (List Leaf) × List Int) (a : Int) : List (List Leaf) × List Int := (b.1 ++ [[.int 1, .int (hashF [(b.1.length : Int), a, salt]), .ints [], .ints []]], b.2 ++ [salt])
def dealEv (ok : Bool) (n : Int) (seeds : List Int) (salt : Int) : List (List Leaf) := bif ok then bif ((seeds.length : Int) != n) then [] else (seeds.foldl (dealS salt) ([], [])).1 ++ [[.int 2, .int 0, .ints seeds, .ints (seeds.foldl (dealS salt) ([], [])).2]] else []
theorem dealF_len (salt : Int) : ∀ (l : List Int) (b : List (List Leaf) × List Int), (l.foldl (dealS salt) b).1.length = b.1.length + l.length ∧ (l.foldl (dealS salt) b).2.length = b.2.length + l.length
  | [], b => ⟨rfl, rfl⟩
  | a :: l, b => by
    obtain ⟨h1, h2⟩ := dealF_len salt l (dealS salt b a)
    rw [List.foldl_cons, h1, h2]
    simp [dealS]
    omega
theorem dealEv_len (ok : Bool) (n : Int) (seeds : List Int) (salt : Int) : (dealEv ok n seeds salt).length ≤ seeds.length + 1 := by
  unfold dealEv
  cases ok with
  | false => simp
  | true =>
    cases ((seeds.length : Int) != n) with
    | true => simp
    | false =>
      simp only [cond_true, cond_false, List.length_append, List.length_singleton, (dealF_len salt seeds ([], [])).1, List.length_nil]
      omega
theorem spec_DealEvents.eq {k : Nat} (hk : BIG ≤ k) {r : Rl} (hr : r.sm) {l : List Int} (hl : l.length < 1048577) (salt : Int) : r.ap (spec_DealEvents.f k) l salt = some (dealEv r.ok r.n l salt) := by
  refine (bind_s (spec_rl hk hr)).trans ?_
  unfold dealEv
  cases r.ok with
  | false => rfl
  | true =>
    cases hn : ((l.length : Int) != r.n) with
    | true => exact (bif_f rfl).trans (bif_t rfl)
    | false =>
      refine (bif_f rfl).trans ((bif_f rfl).trans ?_)
      have h := scan (B := List (List Leaf) × List Int) l (fun m b i => spec_DealEvents.l6 k l salt (fun x3 x4 => chk (decide ((0 + l.length) * 8 ≤ room)) <| chk (decide ((x3.length + 1) * 64 ≤ room)) <| some (x3 ++ ([[.int (2 : Int), .int (0 : Int), .ints ([] ++ l), .ints x4]]))) m i b.1 b.2) (fun _ _ => true) (dealS salt) (fun b => some (b.1 ++ [[.int 2, .int 0, .ints l, .ints b.2]])) (fun _ _ => none) (fun i b => b.1.length = i ∧ b.2.length = i)
        (fun m b i h hI => by
          obtain ⟨hI1, hI2⟩ := hI
          refine (spec_DealEvents.l6_succ ..).trans ((bif_t (dec_t (by omega))).trans ((chk_t (in_t h)).trans ?_))
          rw [Int.toNat_natCast, getD_lt _ h]
          refine (bind_s (spec_SeedSeal.eq hk ..)).trans ((chk_t (dec_t (by simp [room]; omega))).trans ((chk_t (dec_t (by simp [room]; omega))).trans ?_))
          rw [wrap_up (by omega)]
          subst hI1
          rfl)
        (fun b i h hI _ => by simp [dealS]; omega)
        (fun m b hI => (spec_DealEvents.l6_succ ..).trans ((bif_f (dec_f (by omega))).trans ((chk_t (dec_t (by simp [room]; omega))).trans ((chk_t (dec_t (by simp [room]; omega))).trans rfl))))
        l.length 0 k ([], []) (by omega) (BIG_lt hk hl) (by simp)
      refine h.trans ?_
      rw [List.drop_zero, run_fold]
      rfl
end Go.Proofs.YtpdkglbbhfhlfaaGreat
