/- What these functions compute, as plain functions. No condition. -/
import Derived.Test.YtoaiieheibcnlaaDoorTs
import Derived.Test.YtoaiieheibcnlaaDoorCuD
import Derived.Test.YtoaiieheibcnlaaDoorNeD
import Derived.Test.YtoaiieheibcnlaaDoorNbD
import Derived.Test.YtoaiieheibcnlaaDoorNaD
namespace Go.Proofs
open Go.Ab
noncomputable def gLaw06LabelSame (x0 : ByteArray) (x1 : ByteArray) : Option Bool :=
  ((gLaw01Cut x0 60)).bind fun r1 =>
  ((gLaw01Cut x1 60)).bind fun r2 =>
  (gLaw06Awake).bind fun r3 =>
  need (Under (notB r3) false ((gRef06Good r1).isSome = true)) <|
  need (Under (pickB (notB r3) true (notB ((gRef06Good r1).getD dflt))) false ((gRef06Good r2).isSome = true)) <|
  bif (pickB (pickB (notB r3) true (notB ((gRef06Good r1).getD dflt))) true (notB ((gRef06Good r2).getD dflt))) then (
    some r3
  ) else (
    ((gLabelSame r1 r2)).bind fun r4 =>
    ((gRef06Fold r1)).bind fun r5 =>
    ((gRef06Fold r2)).bind fun r6 =>
    need (Under (eqB r4 (eqS r5 r6)) true ((gLabelSame r2 r1).isSome = true)) <|
    need (Under (pickB (eqB r4 (eqS r5 r6)) (eqB r4 ((gLabelSame r2 r1).getD dflt)) false) true ((gLabelSame r1 r1).isSome = true)) <|
    some (pickB (pickB (eqB r4 (eqS r5 r6)) (eqB r4 ((gLabelSame r2 r1).getD dflt)) false) ((gLabelSame r1 r1).getD dflt) false)
  )
end Go.Proofs
