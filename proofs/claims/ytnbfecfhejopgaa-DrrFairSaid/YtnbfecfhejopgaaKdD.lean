/- The words for a map's keys. No condition. -/
import Derived.Test.YtnbfecfhejopgaaKl
import Derived.Test.YtnbfecfhejopgaaTs
