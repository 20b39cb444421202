/- What these functions compute, as plain functions. No condition. -/
import Derived.Test.YtdcfbacpklklcaaTs
import Derived.Test.YtdcfbacpklklcaaFrD
import Derived.Test.YtdcfbacpklklcaaWfD
namespace Go.Proofs
open Go.Ab
noncomputable def gLaw10FrameSounds.loop1 (x0 : List Int) (_s1 : Unit) : Option (Fl Unit (Fl Unit Bool)) :=
  bif (pickB (ltI 0 (lenL x0)) (ltI 0 60) false) then (
    need (InB 0 (lenL x0)) <|
    none
  ) else (
    some (.out (.go ()))
  )

noncomputable def gLaw10FrameSounds.loop3 (x0 : List Int) (x1 : Int) (s3 : Int × Int × Int × FrameMaker) : Option (Fl (Int × Int × Int × FrameMaker) (Fl (Int × Int × FrameMaker) Bool)) :=
  bif (pickB (ltI s3.1 (lenL x0)) (ltI s3.1 60) false) then (
    ((
      need (InB s3.1 (lenL x0)) <|
      need (NonZ 2) <|
      need (InB s3.1 (lenL x0)) <|
      need (InB s3.1 (lenL x0)) <|
      need (RepB (bitsOp .and .i64 (nthI x0 s3.1) 63) (bitsOp .and .i64 (nthI x0 s3.1) 63) 1) <|
      ((gFrameMakerPut s3.2.2.2 (Antiphonref10Unit.mk (mulI .i64 5 s3.1) (quoI .i64 s3.1 2) (ltI 0 (bitsOp .and .i64 (nthI x0 s3.1) 64)) (ltI 0 (bitsOp .and .i64 (nthI x0 s3.1) 128)) false (strOfNums (repL (bitsOp .and .i64 (nthI x0 s3.1) 63) 0)) 0))).bind fun r3 =>
      need (Under (neI (lenL r3.1.fUnits) 1) false (Under r3.2.1 true (Under (neB r3.2.1 (leI (bitsOp .and .i64 (nthI x0 s3.1) 63) (addI .i64 1 (bitsOp .and .i64 x1 31)))) false ((gFrameFrameSize r3.1).isSome = true)))) <|
      need (Under (pickB (neB r3.2.1 (leI (bitsOp .and .i64 (nthI x0 s3.1) 63) (addI .i64 1 (bitsOp .and .i64 x1 31)))) true (pickB r3.2.1 (pickB (neI (lenL r3.1.fUnits) 1) true (neI ((gFrameFrameSize r3.1).getD dflt) (bitsOp .and .i64 (nthI x0 s3.1) 63))) false)) false ((gFrameMakerOpen r3.2.2).isSome = true)) <|
      bif (pickB (pickB (neB r3.2.1 (leI (bitsOp .and .i64 (nthI x0 s3.1) 63) (addI .i64 1 (bitsOp .and .i64 x1 31)))) true (pickB r3.2.1 (pickB (neI (lenL r3.1.fUnits) 1) true (neI ((gFrameFrameSize r3.1).getD dflt) (bitsOp .and .i64 (nthI x0 s3.1) 63))) false)) true (neI ((gFrameMakerOpen r3.2.2).getD dflt) 0)) then (
        some (.out (.out (.out false)))
      ) else (
        bif r3.2.1 then (
          some (.go (r3.2.2, (addI .i64 s3.2.1 1), s3.2.2.1))
        ) else (
          some (.go (r3.2.2, s3.2.1, (addI .i64 s3.2.2.1 1)))
        )
      )
      : Option (Fl (FrameMaker × Int × Int) (Fl (Int × Int × Int × FrameMaker) (Fl (Int × Int × FrameMaker) Bool)))).bind fun f => flC f fun (v4 : FrameMaker × Int × Int) =>
      some (.go ((addI .i64 s3.1 1), v4.2.1, v4.2.2, v4.1))
    )
  ) else (
    some (.out (.go (s3.2.1, s3.2.2.1, s3.2.2.2)))
  )

noncomputable def gLaw10FrameSounds (x0 : List Int) (x1 : Int) : Option Bool :=
  (gLaw10Awake).bind fun r1 =>
  bif (notB r1) then (
    some false
  ) else (
    ((gFrameNew (FrameConfig.mk false (addI .i64 1 (bitsOp .and .i64 x1 31)) 1 3))).bind fun r2 =>
    optC r2.1 (
      bif (neI r2.2 0) then (
        some false
      ) else (
        ((loopF (gLaw10FrameSounds.loop1 x0) ()).bind fun f => flC f fun (_v1 : Unit) =>
          none
        )
      )
    ) fun o1 => (
      bif (neI r2.2 0) then (
        some false
      ) else (
        ((loopF (gLaw10FrameSounds.loop3 x0 x1) (0, 0, 0, o1)).bind fun f => flC f fun (v3 : Int × Int × FrameMaker) =>
          ((gFrameMakerCounts v3.2.2)).bind fun r4 =>
          some (pickB (eqI r4.1 v3.1) (eqI r4.2 v3.2.1) false)
        )
      )
    )
  )
end Go.Proofs
