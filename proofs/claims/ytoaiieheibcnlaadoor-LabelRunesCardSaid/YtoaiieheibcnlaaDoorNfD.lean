/- What these functions compute, as plain functions. No condition. -/
import Derived.Test.YtoaiieheibcnlaaDoorTs
import Derived.Test.YtoaiieheibcnlaaDoorCuD
import Derived.Test.YtoaiieheibcnlaaDoorNeD
import Derived.Test.YtoaiieheibcnlaaDoorNbD
import Derived.Test.YtoaiieheibcnlaaDoorNaD
namespace Go.Proofs
open Go.Ab
noncomputable def gLaw06LabelChecks (x0 : ByteArray) : Option Bool :=
  ((gLaw01Cut x0 80)).bind fun r1 =>
  ((gLabelCheck r1)).bind fun r2 =>
  (gLaw06Awake).bind fun r3 =>
  need (Under r3 true ((gRef06Good r1).isSome = true)) <|
  some (pickB (pickB r3 (eqB (eqI r2 0) ((gRef06Good r1).getD dflt)) false) (pickB (eqI r2 0) true (eqI r2 6)) false)
end Go.Proofs
