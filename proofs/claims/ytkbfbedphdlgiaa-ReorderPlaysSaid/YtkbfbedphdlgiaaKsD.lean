/- The words for a map's keys. No condition. -/
import Derived.Test.YtkbfbedphdlgiaaKl
import Derived.Test.YtkbfbedphdlgiaaTs
