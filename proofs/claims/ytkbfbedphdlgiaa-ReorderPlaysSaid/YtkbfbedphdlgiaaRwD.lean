/- What these functions compute, as plain functions. No condition. -/
import Derived.Test.YtkbfbedphdlgiaaTs
import Derived.Test.YtkbfbedphdlgiaaRrD
import Derived.Test.YtkbfbedphdlgiaaRoD
import Derived.Test.YtkbfbedphdlgiaaDrD
import Derived.Test.YtkbfbedphdlgiaaWrD
namespace Go.Proofs
open Go.Ab
noncomputable def gLaw09ReorderWaits.loop1 (x2 : List Antiphonlaw09Act) (s1 : Int × (List (Int × Antiphonref09Thing)) × ReorderConfig × Bool × Int × Int × Antiphonref09Buffer × Int) : Option (Fl (Int × (List (Int × Antiphonref09Thing)) × ReorderConfig × Bool × Int × Int × Antiphonref09Buffer × Int) (Fl ((List (Int × Antiphonref09Thing)) × ReorderConfig × Bool × Int × Int × Antiphonref09Buffer × Int) Bool)) :=
  bif (pickB (ltI s1.1 (lenL x2)) (ltI s1.1 100) false) then (
    need (InB s1.1 (lenL x2)) <|
    ((gLaw09Does (Antiphonlaw09State.mk (ReorderBuffer.mk s1.2.2.1 s1.2.2.2.1 s1.2.2.2.2.1 s1.2.1 s1.2.2.2.2.2.1) s1.2.2.2.2.2.2.1 s1.2.2.2.2.2.2.2) (nthI x2 s1.1))).bind fun r3 =>
    bif (notB r3.2.2) then (
      some (.out (.out false))
    ) else (
      need (InB s1.1 (lenL x2)) <|
      need (Under (pickB (eqI ((nthI x2 s1.1).fKind) 2) (ltI 0 (lenL r3.1.fX.fL)) false) true (InB 0 (lenL r3.1.fX.fL))) <|
      bif (pickB (pickB (eqI ((nthI x2 s1.1).fKind) 2) (ltI 0 (lenL r3.1.fX.fL)) false) (leqI r3.1.fX.fWait (subI .i64 r3.1.fNow ((nthI r3.1.fX.fL 0).fTick))) false) then (
        some (.out (.out false))
      ) else (
        some (.go ((addI .i64 s1.1 1), r3.1.fB.fOf, r3.1.fB.fConfig, r3.1.fB.fBegun, r3.1.fB.fNext, r3.1.fB.fLost, r3.1.fX, r3.1.fNow))
      )
    )
  ) else (
    some (.out (.go (s1.2.1, s1.2.2.1, s1.2.2.2.1, s1.2.2.2.2.1, s1.2.2.2.2.2.1, s1.2.2.2.2.2.2.1, s1.2.2.2.2.2.2.2)))
  )

noncomputable def gLaw09ReorderWaits (x0 : Int) (x1 : Int) (x2 : List Antiphonlaw09Act) : Option Bool :=
  ((gLaw09Begin x0 x1)).bind fun r1 =>
  (gLaw09Awake).bind fun r2 =>
  bif (pickB (notB r2) true (notB r1.2)) then (
    some false
  ) else (
    ((loopF (gLaw09ReorderWaits.loop1 x2) (0, r1.1.fB.fOf, r1.1.fB.fConfig, r1.1.fB.fBegun, r1.1.fB.fNext, r1.1.fB.fLost, r1.1.fX, r1.1.fNow)).bind fun f => flC f fun (v1 : (List (Int × Antiphonref09Thing)) × ReorderConfig × Bool × Int × Int × Antiphonref09Buffer × Int) =>
      ((gReorderBufferFlush (ReorderBuffer.mk v1.2.1 v1.2.2.1 v1.2.2.2.1 v1.1 v1.2.2.2.2.1))).bind fun r4 =>
      ((gReorderBufferLen r4.2)).bind fun r5 =>
      need (Under (eqI r5 0) true ((gReorderBufferMissing r4.2 9).isSome = true)) <|
      bif (pickB (eqI r5 0) (eqI (lenL ((gReorderBufferMissing r4.2 9).getD dflt)) 0) false) then (
        ((gReorderBufferFlush r4.2)).bind fun r6 =>
        some (eqI (lenL r6.1) 0)
      ) else (
        some false
      )
    )
  )
end Go.Proofs
