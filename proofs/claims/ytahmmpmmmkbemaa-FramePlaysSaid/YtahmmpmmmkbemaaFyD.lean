/- What these functions compute, as plain functions. No condition. -/
import Derived.Test.YtahmmpmmmkbemaaTs
import Derived.Test.YtahmmpmmmkbemaaFrD
import Derived.Test.YtahmmpmmmkbemaaWdD
import Derived.Test.YtahmmpmmmkbemaaWfD
namespace Go.Proofs
open Go.Ab
noncomputable def gLaw10FramePlays.loop2 (x0 : Bool) (r3 : Antiphonlaw10State × FrameFrame × Bool) (s2 : Int) : Option (Fl Int (Fl Unit (Fl (Int × FrameMaker × Antiphonref10Maker × Int × Int × Int) (Fl (FrameMaker × Antiphonref10Maker × Int × Int × Int) Bool)))) :=
  bif (ltI s2 (lenL r3.2.1.fUnits)) then (
    need (InB s2 (lenL r3.2.1.fUnits)) <|
    need (Under (pickB x0 (pickB (neB ((nthI r3.2.1.fUnits s2).fStart) (eqI s2 0)) true (neB ((nthI r3.2.1.fUnits s2).fMarker) (eqI s2 (subI .i64 (lenL r3.2.1.fUnits) 1)))) false) false (InB 0 (lenL r3.2.1.fUnits))) <|
    need (Under (pickB (pickB x0 (pickB (neB ((nthI r3.2.1.fUnits s2).fStart) (eqI s2 0)) true (neB ((nthI r3.2.1.fUnits s2).fMarker) (eqI s2 (subI .i64 (lenL r3.2.1.fUnits) 1)))) false) true (neI ((nthI r3.2.1.fUnits s2).fAt) (addI .i64 ((nthI r3.2.1.fUnits 0).fAt) s2))) false ((gFrameFrameTime r3.2.1).isSome = true)) <|
    need (Under (pickB (pickB (pickB x0 (pickB (neB ((nthI r3.2.1.fUnits s2).fStart) (eqI s2 0)) true (neB ((nthI r3.2.1.fUnits s2).fMarker) (eqI s2 (subI .i64 (lenL r3.2.1.fUnits) 1)))) false) true (neI ((nthI r3.2.1.fUnits s2).fAt) (addI .i64 ((nthI r3.2.1.fUnits 0).fAt) s2))) true (neI ((nthI r3.2.1.fUnits s2).fTime) ((gFrameFrameTime r3.2.1).getD dflt))) false ((gFrameFrameKey r3.2.1).isSome = true)) <|
    need (Under (pickB (pickB (pickB x0 (pickB (neB ((nthI r3.2.1.fUnits s2).fStart) (eqI s2 0)) true (neB ((nthI r3.2.1.fUnits s2).fMarker) (eqI s2 (subI .i64 (lenL r3.2.1.fUnits) 1)))) false) true (neI ((nthI r3.2.1.fUnits s2).fAt) (addI .i64 ((nthI r3.2.1.fUnits 0).fAt) s2))) true (neI ((nthI r3.2.1.fUnits s2).fTime) ((gFrameFrameTime r3.2.1).getD dflt))) false (InB 0 (lenL r3.2.1.fUnits))) <|
    bif (pickB (pickB (pickB (pickB x0 (pickB (neB ((nthI r3.2.1.fUnits s2).fStart) (eqI s2 0)) true (neB ((nthI r3.2.1.fUnits s2).fMarker) (eqI s2 (subI .i64 (lenL r3.2.1.fUnits) 1)))) false) true (neI ((nthI r3.2.1.fUnits s2).fAt) (addI .i64 ((nthI r3.2.1.fUnits 0).fAt) s2))) true (neI ((nthI r3.2.1.fUnits s2).fTime) ((gFrameFrameTime r3.2.1).getD dflt))) true (neB ((gFrameFrameKey r3.2.1).getD dflt) ((nthI r3.2.1.fUnits 0).fKey))) then (
      some (.out (.out (.out (.out false))))
    ) else (
      some (.go (addI .i64 s2 1))
    )
  ) else (
    some (.out (.go ()))
  )

noncomputable def gLaw10FramePlays.loop1 (x0 : Bool) (x4 : List Antiphonlaw10Act) (s1 : Int × FrameMaker × Antiphonref10Maker × Int × Int × Int) : Option (Fl (Int × FrameMaker × Antiphonref10Maker × Int × Int × Int) (Fl (FrameMaker × Antiphonref10Maker × Int × Int × Int) Bool)) :=
  bif (pickB (ltI s1.1 (lenL x4)) (ltI s1.1 150) false) then (
    need (InB s1.1 (lenL x4)) <|
    ((gLaw10Does (Antiphonlaw10State.mk s1.2.1 s1.2.2.1 s1.2.2.2.1 s1.2.2.2.2.1 s1.2.2.2.2.2) (nthI x4 s1.1))).bind fun r3 =>
    ((gFrameMakerCounts r3.1.fM)).bind fun r4 =>
    need (Under (notB r3.2.2) false ((gFrameMakerOpen r3.1.fM).isSome = true)) <|
    bif (pickB (pickB (pickB (notB r3.2.2) true (neI ((gFrameMakerOpen r3.1.fM).getD dflt) (lenL r3.1.fX.fOpen))) true (neI r4.1 r3.1.fX.fWhole)) true (neI r4.2 r3.1.fX.fLost)) then (
      some (.out (.out false))
    ) else (
      bif (pickB (pickB (ltI 0 (lenL r3.2.1.fUnits)) (notB x0) false) (neI (lenL r3.2.1.fUnits) 1) false) then (
        some (.out (.out false))
      ) else (
        ((loopF (gLaw10FramePlays.loop2 x0 r3) 0).bind fun f => flC f fun (_v2 : Unit) =>
          some (.go ((addI .i64 s1.1 1), r3.1.fM, r3.1.fX, r3.1.fAt, r3.1.fTime, r3.1.fNow))
        )
      )
    )
  ) else (
    some (.out (.go (s1.2.1, s1.2.2.1, s1.2.2.2.1, s1.2.2.2.2.1, s1.2.2.2.2.2)))
  )

noncomputable def gLaw10FramePlays (x0 : Bool) (x1 : Int) (x2 : Int) (x3 : Int) (x4 : List Antiphonlaw10Act) : Option Bool :=
  ((gLaw10Begin x0 x1 x2 x3)).bind fun r1 =>
  (gLaw10Awake).bind fun r2 =>
  bif (pickB (notB r2) true (notB r1.2)) then (
    some false
  ) else (
    ((loopF (gLaw10FramePlays.loop1 x0 x4) (0, r1.1.fM, r1.1.fX, r1.1.fAt, r1.1.fTime, r1.1.fNow)).bind fun f => flC f fun (_v1 : FrameMaker × Antiphonref10Maker × Int × Int × Int) =>
      some true
    )
  )
end Go.Proofs
