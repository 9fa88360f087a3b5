/- Winners of games that play themselves. Conditions: enough rounds, lists of at most 2^20. -/
import Derived.Test.YtfbafmeeejmgoaaGreatKit
import Derived.Test.YtfbafmeeejmgoaaGreatPSettle
import Derived.Test.YtfbafmeeejmgoaaGreatPDeck
import Derived.Test.YtfbafmeeejmgoaaGreatPDealt
import Derived.Test.YtfbafmeeejmgoaaGreatPPlayOut
set_option linter.unusedVariables false
set_option linter.unusedSimpArgs false
namespace Go.Proofs.YtfbafmeeejmgoaaGreat
open Go Go.Proofs.YtfbafmeeejmgoaaGreat.V
def seedWinner (r : Rl) (kinds : List Int) (s : Int) : Int := winner (playOut (newGame r (shuffled fullDeck s)).1 kinds)
def someWinner (r : Rl) (seeds kinds : List Int) : List Int := bif r.ok && !decide ((seeds.length : Int) > 20) then seeds.map (seedWinner r kinds) else []
theorem someWinner_len (r : Rl) (seeds kinds : List Int) : (someWinner r seeds kinds).length ≤ 20 := by
  unfold someWinner
  cases h : (r.ok && !decide ((seeds.length : Int) > 20)) with
  | false => simp
  | true =>
    simp only [Bool.and_eq_true, Bool.not_eq_true', decide_eq_false_iff_not] at h
    rw [cond_true, List.length_map]
    omega
theorem shuffled_len52 (s : Int) : (shuffled fullDeck s).length < 1048577 := by rw [(shuffled_perm _ _).length_eq, fullDeck_len]; decide
end Go.Proofs.YtfbafmeeejmgoaaGreat
