/- The plain functions, all. -/
import Derived.Test.YtfkejiljabmaaaaF0
