/- What the laid blocks say, to whatever world they lie in: here, nothing. No condition. -/
import Derived.WalkKit
namespace Go.Ab
@[simp] def keepTok : Bool := true
def fctF (_ : World) : Prop := True
end Go.Ab
