/- Events that deal, in plain Lean: the reference's side. Conditions: enough rounds, lists of at most 2^20. -/
import Derived.Test.YtpdkglbbhfhlfaaGreatKit
import Derived.Test.YtpdkglbbhfhlfaaGreatFFnAgain
import Derived.Test.YtpdkglbbhfhlfaaGreatPGame
import Derived.Test.YtpdkglbbhfhlfaaGreatPSeal
set_option linter.unusedVariables false
set_option linter.unusedSimpArgs false
namespace Go.Proofs.YtpdkglbbhfhlfaaGreat
open Go Go.Proofs.YtpdkglbbhfhlfaaGreat.V
def dealS (salt : Int) (b : List (List Leaf) × List Int) (a : Int) : List (List Leaf) × List Int := (b.1 ++ [[.int 1, .int (hashF [(b.1.length : Int), a, salt]), .ints [], .ints []]], b.2 ++ [salt])
def dealEv (ok : Bool) (n : Int) (seeds : List Int) (salt : Int) : List (List Leaf) := bif ok then bif ((seeds.length : Int) != n) then [] else (seeds.foldl (dealS salt) ([], [])).1 ++ [[.int 2, .int 0, .ints seeds, .ints (seeds.foldl (dealS salt) ([], [])).2]] else []
theorem dealF_len (salt : Int) : ∀ (l : List Int) (b : List (List Leaf) × List Int), (l.foldl (dealS salt) b).1.length = b.1.length + l.length ∧ (l.foldl (dealS salt) b).2.length = b.2.length + l.length
  | [], b => ⟨rfl, rfl⟩
  | a :: l, b => by
    obtain ⟨h1, h2⟩ := dealF_len salt l (dealS salt b a)
    rw [List.foldl_cons, h1, h2]
    simp [dealS]
    omega
theorem dealEv_len (ok : Bool) (n : Int) (seeds : List Int) (salt : Int) : (dealEv ok n seeds salt).length ≤ seeds.length + 1 := by
  unfold dealEv
  cases ok with
  | false => simp
  | true =>
    cases ((seeds.length : Int) != n) with
    | true => simp
    | false =>
      simp only [cond_true, cond_false, List.length_append, List.length_singleton, (dealF_len salt seeds ([], [])).1, List.length_nil]
      omega
end Go.Proofs.YtpdkglbbhfhlfaaGreat
