/- The words for a map's keys. No condition. -/
import Derived.Test.YtefhipepfihloaaKl
import Derived.Test.YtefhipepfihloaaTs
