/- What these functions compute, as plain functions. No condition. -/
import Derived.Test.YtnoeflijefijcaaTs
import Derived.Test.YtnoeflijefijcaaEaD
import Derived.Test.YtnoeflijefijcaaEdD
import Derived.Test.YtnoeflijefijcaaM01
namespace Go.Proofs
open Go.Ab
noncomputable def gLaw20Config (x0 : Int) (x1 : Int) : Option EgressConfig :=
  need (NonN 3) <|
  need (NonN 6) <|
  need (NonN 8) <|
  some (EgressConfig.mk (addI .i64 1 (bitsOp .and .i64 x0 7)) (addI .i64 16 (bitsOp .and .i64 x1 63)) (addI .i64 1 (bitsOp .and .i64 (shrI .i64 x0 3) 31)) (addI .i64 1 (bitsOp .and .i64 (shrI .i64 x1 6) 31)) (addI .i64 1 (bitsOp .and .i64 (shrI .i64 x0 8) 3)))

noncomputable def gLaw20Awake.loop1  (s1 : Int × (List (Int × Int)) × (List (Int × Int)) × Int × Int × Bool × (List (Int × EgressFlow)) × EgressConfig × Int × Int) : Option (Fl (Int × (List (Int × Int)) × (List (Int × Int)) × Int × Int × Bool × (List (Int × EgressFlow)) × EgressConfig × Int × Int) (Fl ((List (Int × Int)) × (List (Int × Int)) × Int × Int × Bool × (List (Int × EgressFlow)) × EgressConfig × Int × Int) Bool)) :=
  bif (ltI s1.1 3) then (
    ((gEgressOutPut (EgressOut.mk s1.2.2.2.2.2.2.2.1 s1.2.2.2.2.2.2.1 (DrrSched.mk s1.2.2.2.1 s1.2.1 s1.2.2.1 s1.2.2.2.2.1 s1.2.2.2.2.2.1) s1.2.2.2.2.2.2.2.2.1 s1.2.2.2.2.2.2.2.2.2) 1 (Antiphonref18Item.mk s1.1 1 0 false))).bind fun r4 =>
    some (.go ((addI .i64 s1.1 1), r4.2.2.fSched.fShare, r4.2.2.fSched.fLeft, r4.2.2.fSched.fMost, r4.2.2.fSched.fAt, r4.2.2.fSched.fGranted, r4.2.2.fFlows, r4.2.2.fConfig, r4.2.2.fCredit, r4.2.2.fSounds))
  ) else (
    some (.out (.go (s1.2.1, s1.2.2.1, s1.2.2.2.1, s1.2.2.2.2.1, s1.2.2.2.2.2.1, s1.2.2.2.2.2.2.1, s1.2.2.2.2.2.2.2.1, s1.2.2.2.2.2.2.2.2.1, s1.2.2.2.2.2.2.2.2.2)))
  )

noncomputable def gLaw20Awake : Option Bool :=
  ((gEgressNew (EgressConfig.mk 9 99 9 9 2))).bind fun r1 =>
  optC r1.1 (
    bif (pickB (neI r1.2 0) true true) then (
      some false
    ) else (
      none
    )
  ) fun o1 => (
    bif (pickB (neI r1.2 0) true false) then (
      some false
    ) else (
      ((gEgressOutAdd o1 1 false 0)).bind fun r2 =>
      bif (neI r2.1 0) then (
        some false
      ) else (
        ((gEgressOutAdd r2.2 2 true 9)).bind fun r3 =>
        bif (neI r3.1 0) then (
          some false
        ) else (
          ((loopF gLaw20Awake.loop1 (0, r3.2.fSched.fShare, r3.2.fSched.fLeft, r3.2.fSched.fMost, r3.2.fSched.fAt, r3.2.fSched.fGranted, r3.2.fFlows, r3.2.fConfig, r3.2.fCredit, r3.2.fSounds)).bind fun f => flC f fun (v1 : (List (Int × Int)) × (List (Int × Int)) × Int × Int × Bool × (List (Int × EgressFlow)) × EgressConfig × Int × Int) =>
            ((gEgressOutPut (EgressOut.mk v1.2.2.2.2.2.2.1 v1.2.2.2.2.2.1 (DrrSched.mk v1.2.2.1 v1.1 v1.2.1 v1.2.2.2.1 v1.2.2.2.2.1) v1.2.2.2.2.2.2.2.1 v1.2.2.2.2.2.2.2.2) 2 (Antiphonref18Item.mk 9 5 0 true))).bind fun r5 =>
            ((gEgressOutGrant r5.2.2 100)).bind fun r6 =>
            ((gEgressOutRun r6)).bind fun r7 =>
            need (Under (eqI (lenL r7.1) 4) true (InB 0 (lenL r7.1))) <|
            need (Under (pickB (eqI (lenL r7.1) 4) (eqI ((nthI r7.1 0).fId) 1) false) true (InB 1 (lenL r7.1))) <|
            need (Under (pickB (pickB (eqI (lenL r7.1) 4) (eqI ((nthI r7.1 0).fId) 1) false) (eqI ((nthI r7.1 1).fId) 1) false) true (InB 2 (lenL r7.1))) <|
            need (Under (pickB (pickB (pickB (eqI (lenL r7.1) 4) (eqI ((nthI r7.1 0).fId) 1) false) (eqI ((nthI r7.1 1).fId) 1) false) (eqI ((nthI r7.1 2).fId) 2) false) true (InB 3 (lenL r7.1))) <|
            need (Under (pickB (pickB (pickB (pickB (eqI (lenL r7.1) 4) (eqI ((nthI r7.1 0).fId) 1) false) (eqI ((nthI r7.1 1).fId) 1) false) (eqI ((nthI r7.1 2).fId) 2) false) (eqI ((nthI r7.1 3).fId) 1) false) true ((gEgressOutCredit r7.2).isSome = true)) <|
            some (pickB (pickB (pickB (pickB (pickB (eqI (lenL r7.1) 4) (eqI ((nthI r7.1 0).fId) 1) false) (eqI ((nthI r7.1 1).fId) 1) false) (eqI ((nthI r7.1 2).fId) 2) false) (eqI ((nthI r7.1 3).fId) 1) false) (eqI ((gEgressOutCredit r7.2).getD dflt) 92) false)
          )
        )
      )
    )
  )

noncomputable def gLaw20Same.loop1 (x0 : List Antiphonref20Sent) (x1 : List Antiphonref20Sent) (s1 : Int) : Option (Fl Int (Fl Unit Int)) :=
  bif (ltI s1 (lenL x1)) then (
    need (InB s1 (lenL x0)) <|
    need (InB s1 (lenL x1)) <|
    need (Under (neI ((nthI x0 s1).fId) ((nthI x1 s1).fId)) false (InB s1 (lenL x0))) <|
    need (Under (neI ((nthI x0 s1).fId) ((nthI x1 s1).fId)) false (InB s1 (lenL x1))) <|
    bif (pickB (neI ((nthI x0 s1).fId) ((nthI x1 s1).fId)) true (notB (pickB (eqI ((nthI x0 s1).fItem.fN) ((nthI x1 s1).fItem.fN)) (pickB (eqI ((nthI x0 s1).fItem.fSize) ((nthI x1 s1).fItem.fSize)) (pickB (eqI ((nthI x0 s1).fItem.fTick) ((nthI x1 s1).fItem.fTick)) (eqB ((nthI x0 s1).fItem.fKey) ((nthI x1 s1).fItem.fKey)) false) false) false))) then (
      some (.out (.out (-1)))
    ) else (
      some (.go (addI .i64 s1 1))
    )
  ) else (
    some (.out (.go ()))
  )

noncomputable def gLaw20Same (x0 : List Antiphonref20Sent) (x1 : List Antiphonref20Sent) : Option Int :=
  bif (neI (lenL x0) (lenL x1)) then (
    some (-1)
  ) else (
    ((loopF (gLaw20Same.loop1 x0 x1) 0).bind fun f => flC f fun (_v1 : Unit) =>
      some 0
    )
  )

noncomputable def gLaw20Is.loop1 (x0 : Antiphonlaw20State) (s1 : Int) : Option (Fl Int (Fl Unit Int)) :=
  bif (ltI s1 (lenL x0.fX.fL)) then (
    need (InB s1 (lenL x0.fX.fL)) <|
    ((gEgressOutWaits x0.fO ((nthI x0.fX.fL s1).fId))).bind fun r2 =>
    need (Under (neI r2.1 (lenL ((nthI x0.fX.fL s1).fQ.fL))) false ((gRef18Size ((nthI x0.fX.fL s1).fQ.fL)).isSome = true)) <|
    need (Under (pickB (neI r2.1 (lenL ((nthI x0.fX.fL s1).fQ.fL))) true (neI r2.2 ((gRef18Size ((nthI x0.fX.fL s1).fQ.fL)).getD dflt))) false ((gEgressOutBroken x0.fO ((nthI x0.fX.fL s1).fId)).isSome = true)) <|
    bif (pickB (pickB (pickB (pickB (neI r2.1 (lenL ((nthI x0.fX.fL s1).fQ.fL))) true (neI r2.2 ((gRef18Size ((nthI x0.fX.fL s1).fQ.fL)).getD dflt))) true (neB ((gEgressOutBroken x0.fO ((nthI x0.fX.fL s1).fId)).getD dflt) ((nthI x0.fX.fL s1).fQ.fBroken))) true (ltI x0.fX.fFrames r2.1)) true (ltI x0.fX.fBytes r2.2)) then (
      some (.out (.out (-1)))
    ) else (
      some (.go (addI .i64 s1 1))
    )
  ) else (
    some (.out (.go ()))
  )

noncomputable def gLaw20Is (x0 : Antiphonlaw20State) : Option Int :=
  ((gEgressOutCredit x0.fO)).bind fun r1 =>
  bif (neI r1 x0.fX.fCredit) then (
    some (-1)
  ) else (
    ((loopF (gLaw20Is.loop1 x0) 0).bind fun f => flC f fun (_v1 : Unit) =>
      some 0
    )
  )
end Go.Proofs
