/- What these functions compute, as plain functions. No condition. -/
import Derived.Test.YtkbfbedphdlgiaaTs
import Derived.Test.YtkbfbedphdlgiaaRoD
import Derived.Test.YtkbfbedphdlgiaaRrD
import Derived.Test.YtkbfbedphdlgiaaDrD
import Derived.Test.YtkbfbedphdlgiaaWrD
import Derived.Test.YtkbfbedphdlgiaaRpD
namespace Go.Proofs
open Go.Ab
noncomputable def gLaw09ReorderPlays.loop2 (r3 : Antiphonlaw09State × List Antiphonref09Thing × Bool) (s2 : Int × Int) : Option (Fl (Int × Int) (Fl Int (Fl (Int × Int × (List (Int × Antiphonref09Thing)) × ReorderConfig × Bool × Int × Int × Antiphonref09Buffer × Int) (Fl ((List (Int × Antiphonref09Thing)) × ReorderConfig × Bool × Int × Int × Antiphonref09Buffer × Int) Bool)))) :=
  bif (ltI s2.1 (lenL r3.2.1)) then (
    need (InB s2.1 (lenL r3.2.1)) <|
    bif (leqI ((nthI r3.2.1 s2.1).fAt) s2.2) then (
      some (.out (.out (.out (.out false))))
    ) else (
      some (.go ((addI .i64 s2.1 1), (nthI r3.2.1 s2.1).fAt))
    )
  ) else (
    some (.out (.go s2.2))
  )

noncomputable def gLaw09ReorderPlays.loop3 (r5 : List Int) (r6 : List Int) (s3 : Int) : Option (Fl Int (Fl Unit (Fl (Int × Int × (List (Int × Antiphonref09Thing)) × ReorderConfig × Bool × Int × Int × Antiphonref09Buffer × Int) (Fl ((List (Int × Antiphonref09Thing)) × ReorderConfig × Bool × Int × Int × Antiphonref09Buffer × Int) Bool)))) :=
  bif (ltI s3 (lenL r6)) then (
    need (InB s3 (lenL r5)) <|
    need (InB s3 (lenL r6)) <|
    bif (neI (nthI r5 s3) (nthI r6 s3)) then (
      some (.out (.out (.out (.out false))))
    ) else (
      some (.go (addI .i64 s3 1))
    )
  ) else (
    some (.out (.go ()))
  )

noncomputable def gLaw09ReorderPlays.loop1 (x2 : List Antiphonlaw09Act) (s1 : Int × Int × (List (Int × Antiphonref09Thing)) × ReorderConfig × Bool × Int × Int × Antiphonref09Buffer × Int) : Option (Fl (Int × Int × (List (Int × Antiphonref09Thing)) × ReorderConfig × Bool × Int × Int × Antiphonref09Buffer × Int) (Fl ((List (Int × Antiphonref09Thing)) × ReorderConfig × Bool × Int × Int × Antiphonref09Buffer × Int) Bool)) :=
  bif (pickB (ltI s1.1 (lenL x2)) (ltI s1.1 150) false) then (
    need (InB s1.1 (lenL x2)) <|
    ((gLaw09Does (Antiphonlaw09State.mk (ReorderBuffer.mk s1.2.2.2.1 s1.2.2.2.2.1 s1.2.2.2.2.2.1 s1.2.2.1 s1.2.2.2.2.2.2.1) s1.2.2.2.2.2.2.2.1 s1.2.2.2.2.2.2.2.2) (nthI x2 s1.1))).bind fun r3 =>
    ((gReorderBufferNext r3.1.fB)).bind fun r4 =>
    need (Under (notB r3.2.2) false ((gReorderBufferLen r3.1.fB).isSome = true)) <|
    need (Under (pickB (notB r3.2.2) true (neI ((gReorderBufferLen r3.1.fB).getD dflt) (lenL r3.1.fX.fL))) false ((gReorderBufferLen r3.1.fB).isSome = true)) <|
    need (Under (pickB (pickB (pickB (pickB (notB r3.2.2) true (neI ((gReorderBufferLen r3.1.fB).getD dflt) (lenL r3.1.fX.fL))) true (ltI r3.1.fX.fMost ((gReorderBufferLen r3.1.fB).getD dflt))) true (neI r4.1 r3.1.fX.fNext)) true (neB r4.2 r3.1.fX.fBegun)) false ((gReorderBufferLost r3.1.fB).isSome = true)) <|
    bif (pickB (pickB (pickB (pickB (pickB (notB r3.2.2) true (neI ((gReorderBufferLen r3.1.fB).getD dflt) (lenL r3.1.fX.fL))) true (ltI r3.1.fX.fMost ((gReorderBufferLen r3.1.fB).getD dflt))) true (neI r4.1 r3.1.fX.fNext)) true (neB r4.2 r3.1.fX.fBegun)) true (neI ((gReorderBufferLost r3.1.fB).getD dflt) r3.1.fX.fLost)) then (
      some (.out (.out false))
    ) else (
      ((loopF (gLaw09ReorderPlays.loop2 r3) (0, s1.2.1)).bind fun f => flC f fun (v2 : Int) =>
        need (InB s1.1 (lenL x2)) <|
        ((gReorderBufferMissing r3.1.fB (bitsOp .and .i64 ((nthI x2 s1.1).fBy) 7))).bind fun r5 =>
        ((gRef09Missing r3.1.fX (bitsOp .and .i64 ((nthI x2 s1.1).fBy) 7))).bind fun r6 =>
        bif (neI (lenL r5) (lenL r6)) then (
          some (.out (.out false))
        ) else (
          ((loopF (gLaw09ReorderPlays.loop3 r5 r6) 0).bind fun f => flC f fun (_v3 : Unit) =>
            some (.go ((addI .i64 s1.1 1), v2, r3.1.fB.fOf, r3.1.fB.fConfig, r3.1.fB.fBegun, r3.1.fB.fNext, r3.1.fB.fLost, r3.1.fX, r3.1.fNow))
          )
        )
      )
    )
  ) else (
    some (.out (.go (s1.2.2.1, s1.2.2.2.1, s1.2.2.2.2.1, s1.2.2.2.2.2.1, s1.2.2.2.2.2.2.1, s1.2.2.2.2.2.2.2.1, s1.2.2.2.2.2.2.2.2)))
  )

noncomputable def gLaw09ReorderPlays (x0 : Int) (x1 : Int) (x2 : List Antiphonlaw09Act) : Option Bool :=
  ((gLaw09Begin x0 x1)).bind fun r1 =>
  (gLaw09Awake).bind fun r2 =>
  bif (pickB (notB r2) true (notB r1.2)) then (
    some false
  ) else (
    ((loopF (gLaw09ReorderPlays.loop1 x2) (0, (-1), r1.1.fB.fOf, r1.1.fB.fConfig, r1.1.fB.fBegun, r1.1.fB.fNext, r1.1.fB.fLost, r1.1.fX, r1.1.fNow)).bind fun f => flC f fun (_v1 : (List (Int × Antiphonref09Thing)) × ReorderConfig × Bool × Int × Int × Antiphonref09Buffer × Int) =>
      some true
    )
  )
end Go.Proofs
