/- What a Builder asks. No condition. -/
import Derived.Test.YtoaiieheibcnlaaDoorUnD
import Derived.Test.YtoaiieheibcnlaaDoorWeD
