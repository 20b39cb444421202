/- What these functions compute, as plain functions. No condition. -/
import Derived.Test.YtahmmpmmmkbemaaTs
import Derived.Test.YtahmmpmmmkbemaaFrD
import Derived.Test.YtahmmpmmmkbemaaCuD
import Derived.Test.YtahmmpmmmkbemaaRfD
namespace Go.Proofs
open Go.Ab
noncomputable def gLaw10Same.loop1 (x0 : List Antiphonref10Unit) (x1 : List Antiphonref10Unit) (s1 : Int) : Option (Fl Int (Fl Unit Bool)) :=
  bif (ltI s1 (lenL x1)) then (
    need (InB s1 (lenL x0)) <|
    need (InB s1 (lenL x1)) <|
    bif (notB (pickB (eqI ((nthI x0 s1).fAt) ((nthI x1 s1).fAt)) (pickB (eqI ((nthI x0 s1).fTime) ((nthI x1 s1).fTime)) (pickB (eqB ((nthI x0 s1).fMarker) ((nthI x1 s1).fMarker)) (pickB (eqB ((nthI x0 s1).fStart) ((nthI x1 s1).fStart)) (pickB (eqB ((nthI x0 s1).fKey) ((nthI x1 s1).fKey)) (pickB (eqS ((nthI x0 s1).fText) ((nthI x1 s1).fText)) (eqI ((nthI x0 s1).fTick) ((nthI x1 s1).fTick)) false) false) false) false) false) false)) then (
      some (.out (.out false))
    ) else (
      some (.go (addI .i64 s1 1))
    )
  ) else (
    some (.out (.go ()))
  )

noncomputable def gLaw10Same (x0 : List Antiphonref10Unit) (x1 : List Antiphonref10Unit) : Option Bool :=
  bif (neI (lenL x0) (lenL x1)) then (
    some false
  ) else (
    ((loopF (gLaw10Same.loop1 x0 x1) 0).bind fun f => flC f fun (_v1 : Unit) =>
      some true
    )
  )

noncomputable def gLaw10Begin (x0 : Bool) (x1 : Int) (x2 : Int) (x3 : Int) : Option (Antiphonlaw10State × Bool) :=
  ((gFrameNew (FrameConfig.mk x0 (addI .i64 1 (bitsOp .and .i64 x1 63)) (addI .i64 1 (bitsOp .and .i64 x2 7)) (bitsOp .and .i64 x3 15)))).bind fun r1 =>
  optC r1.1 (
    none
  ) fun o1 => (
    some ((Antiphonlaw10State.mk o1 (Antiphonref10Maker.mk x0 (addI .i64 1 (bitsOp .and .i64 x1 63)) (addI .i64 1 (bitsOp .and .i64 x2 7)) (bitsOp .and .i64 x3 15) [] 0 0) 1000 5000 0), (pickB (eqI r1.2 0) true false))
  )

noncomputable def gLaw10Does (x0 : Antiphonlaw10State) (x1 : Antiphonlaw10Act) : Option (Antiphonlaw10State × FrameFrame × Bool) :=
  bif (eqI x1.fKind 1) then (
    ((
      bif (eqI (bitsOp .and .i64 x1.fBy 3) 3) then (
        some (.go (subI .i64 (addI .i64 x0.fAt (addI .i64 (bitsOp .and .i64 x1.fBy 3) 1)) 3))
      ) else (
        some (.go (addI .i64 x0.fAt (addI .i64 (bitsOp .and .i64 x1.fBy 3) 1)))
      )
      : Option (Fl Int (Antiphonlaw10State × FrameFrame × Bool))).bind fun f => flC f fun (v1 : Int) =>
      ((gLaw01Cut x1.fS 40)).bind fun r1 =>
      ((gFrameMakerPut x0.fM (Antiphonref10Unit.mk v1 (addI .i64 x0.fTime (bitsOp .and .i64 x1.fLater 1023)) x1.fMarker x1.fStart x1.fKey r1 x0.fNow))).bind fun r2 =>
      ((gRef10Put x0.fX (Antiphonref10Unit.mk v1 (addI .i64 x0.fTime (bitsOp .and .i64 x1.fLater 1023)) x1.fMarker x1.fStart x1.fKey r1 x0.fNow))).bind fun r3 =>
      need (Under (eqB r2.2.1 (ltI 0 (lenL r3.2))) true ((gLaw10Same r2.1.fUnits r3.2).isSome = true)) <|
      need (Under (pickB (eqB r2.2.1 (ltI 0 (lenL r3.2))) ((gLaw10Same r2.1.fUnits r3.2).getD dflt) false) true ((gFrameFrameSize r2.1).isSome = true)) <|
      need (Under (pickB (eqB r2.2.1 (ltI 0 (lenL r3.2))) ((gLaw10Same r2.1.fUnits r3.2).getD dflt) false) true ((gRef10Size r3.2).isSome = true)) <|
      some ((Antiphonlaw10State.mk r2.2.2 r3.1 v1 (addI .i64 x0.fTime (bitsOp .and .i64 x1.fLater 1023)) x0.fNow), r2.1, (pickB (pickB (eqB r2.2.1 (ltI 0 (lenL r3.2))) ((gLaw10Same r2.1.fUnits r3.2).getD dflt) false) (eqI ((gFrameFrameSize r2.1).getD dflt) ((gRef10Size r3.2).getD dflt)) false))
    )
  ) else (
    bif (eqI x1.fKind 2) then (
      ((gFrameMakerTick x0.fM (addI .i64 x0.fNow (bitsOp .and .i64 x1.fBy 31)))).bind fun r4 =>
      ((gRef10Tick x0.fX (addI .i64 x0.fNow (bitsOp .and .i64 x1.fBy 31)))).bind fun r5 =>
      some ((Antiphonlaw10State.mk r4.2 r5.1 x0.fAt x0.fTime (addI .i64 x0.fNow (bitsOp .and .i64 x1.fBy 31))), (FrameFrame.mk []), (eqB r4.1 r5.2))
    ) else (
      some (x0, (FrameFrame.mk []), true)
    )
  )
end Go.Proofs
