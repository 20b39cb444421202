/- The types of these functions. No condition. -/
import Derived.Test.YtoaiieheibcnlaaDoorNx
namespace Go.Ab


end Go.Ab
