/- Seals in plain Lean. Conditions: enough rounds. -/
import Derived.Test.YtpdkglbbhfhlfaaGreatKit
import Derived.Test.YtpdkglbbhfhlfaaGreatFFnEvents
import Derived.Test.YtpdkglbbhfhlfaaGreatPHash
set_option linter.unusedVariables false
set_option linter.unusedSimpArgs false
namespace Go.Proofs.YtpdkglbbhfhlfaaGreat
open Go Go.Proofs.YtpdkglbbhfhlfaaGreat.V
theorem spec_SeedSeal.eq {k : Nat} (hk : BIG ≤ k) (a b c : Int) : spec_SeedSeal.f k a b c = some (hashF [a, b, c]) := bind_s (spec_Hash.eq hk (by simp))
theorem impl_SeedSeal.eq {k : Nat} (hk : BIG ≤ k) (a b c : Int) : impl_SeedSeal.f k a b c = some (hashF [a, b, c]) := bind_s (impl_Hash.eq hk (by simp))
end Go.Proofs.YtpdkglbbhfhlfaaGreat
