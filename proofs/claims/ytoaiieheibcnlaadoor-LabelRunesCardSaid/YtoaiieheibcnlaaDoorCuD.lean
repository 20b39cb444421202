/- What these functions compute, as plain functions. No condition. -/
import Derived.Test.YtoaiieheibcnlaaDoorTs
namespace Go.Proofs
open Go.Ab
noncomputable def gLaw01Cut (x0 : ByteArray) (x1 : Int) : Option ByteArray :=
  bif (ltI x1 (lenS x0)) then (
    need (CutB 0 x1 (lenS x0)) <|
    some (cutS x0 0 x1)
  ) else (
    some x0
  )
end Go.Proofs
