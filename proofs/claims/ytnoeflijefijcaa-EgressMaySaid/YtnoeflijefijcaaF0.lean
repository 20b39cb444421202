/- What the laid blocks say, to whatever world they lie in: here, nothing. No condition. -/
import Derived.WalkKit
namespace Go.Ab
/-- Do the zero slices of what is built keep their tokens. -/
@[simp] def keepTok : Bool := false
/-- What is known of the world throughout a call. -/
def fctF (_ : World) : Prop := True
end Go.Ab
