/- The functions' contracts, all. -/
import Derived.Test.YtfkejiljabmaaaaM0
