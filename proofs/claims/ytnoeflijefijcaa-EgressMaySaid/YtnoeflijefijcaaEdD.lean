/- What these functions compute, as plain functions. No condition. -/
import Derived.Test.YtnoeflijefijcaaTs
import Derived.Test.YtnoeflijefijcaaDcD
import Derived.Test.YtnoeflijefijcaaM04
import Derived.Test.YtnoeflijefijcaaQuD
import Derived.Test.YtnoeflijefijcaaEaD
namespace Go.Proofs
open Go.Ab
noncomputable def gEgressOutNext.loop1 (x0 : EgressOut) (r2 : List Int) (s1 : Int × List Antiphonref19Head) : Option (Fl (Int × List Antiphonref19Head) (Fl (List Antiphonref19Head) (Int × Bool × EgressOut))) :=
  bif (ltI s1.1 (lenL r2)) then (
    need (InB s1.1 (lenL r2)) <|
    optC (findM eqI (nthI r2 s1.1) x0.fFlows) (
      none
    ) fun z3 => (
      ((gQueueQueueFirst z3.fQueue)).bind fun r4 =>
      need (AppB (lenL s1.2) 1 16) <|
      some (.go ((addI .i64 s1.1 1), (appL s1.2 [(Antiphonref19Head.mk (nthI r2 s1.1) r4.1.fSize)])))
    )
  ) else (
    some (.out (.go s1.2))
  )

noncomputable def gEgressOutNext (x0 : EgressOut) : Option (Int × Bool × EgressOut) :=
  ((gEgressOutIds x0 false)).bind fun r1 =>
  ((gEgressOutIds x0 true)).bind fun r2 =>
  bif (pickB (ltI 0 (lenL r1)) (pickB (ltI x0.fSounds x0.fConfig.fGuard) true (eqI (lenL r2) 0)) false) then (
    ((gEgressOutSound x0 r1)).bind fun r3 =>
    some (r3, true, x0)
  ) else (
    ((loopF (gEgressOutNext.loop1 x0 r2) (0, [])).bind fun f => flC f fun (v1 : List Antiphonref19Head) =>
      ((gDrrSchedChoose x0.fSched v1)).bind fun r5 =>
      some (r5.1, r5.2.1, (EgressOut.mk x0.fConfig x0.fFlows r5.2.2 x0.fCredit x0.fSounds))
    )
  )

noncomputable def gEgressOutRun.loop1  (s1 : List Antiphonref20Sent × EgressConfig × Int × Int × (List (Int × EgressFlow)) × Int × Int × Bool × (List (Int × Int)) × (List (Int × Int))) : Option (Fl (List Antiphonref20Sent × EgressConfig × Int × Int × (List (Int × EgressFlow)) × Int × Int × Bool × (List (Int × Int)) × (List (Int × Int))) (Fl Unit (List Antiphonref20Sent × EgressOut))) :=
  ((gEgressOutNext (EgressOut.mk s1.2.1 s1.2.2.2.2.1 (DrrSched.mk s1.2.2.2.2.2.1 s1.2.2.2.2.2.2.2.2.1 s1.2.2.2.2.2.2.2.2.2 s1.2.2.2.2.2.2.1 s1.2.2.2.2.2.2.2.1) s1.2.2.1 s1.2.2.2.1))).bind fun r1 =>
  bif (notB r1.2.1) then (
    some (.out (.out (s1.1, r1.2.2)))
  ) else (
    optC (findM eqI r1.1 r1.2.2.fFlows) (
      none
    ) fun z3 => (
      ((gQueueQueueFirst z3.fQueue)).bind fun r2 =>
      bif (ltI r1.2.2.fCredit r2.1.fSize) then (
        some (.out (.out (s1.1, r1.2.2)))
      ) else (
        ((gQueueQueuePop z3.fQueue)).bind fun r3 =>
        ((
          bif z3.fVideo then (
            ((gDrrSchedTake r1.2.2.fSched r2.1.fSize)).bind fun r4 =>
            some (.go (r4.fMost, r4.fAt, r4.fGranted, r4.fShare, r4.fLeft, 0, true))
          ) else (
            some (.go (r1.2.2.fSched.fMost, r1.2.2.fSched.fAt, r1.2.2.fSched.fGranted, r1.2.2.fSched.fShare, r1.2.2.fSched.fLeft, (addI .i64 r1.2.2.fSounds 1), false))
          )
          : Option (Fl (Int × Int × Bool × (List (Int × Int)) × (List (Int × Int)) × Int × Bool) (Fl (List Antiphonref20Sent × EgressConfig × Int × Int × (List (Int × EgressFlow)) × Int × Int × Bool × (List (Int × Int)) × (List (Int × Int))) (Fl Unit (List Antiphonref20Sent × EgressOut))))).bind fun f => flC f fun (v2 : Int × Int × Bool × (List (Int × Int)) × (List (Int × Int)) × Int × Bool) =>
          need (AppB (lenL s1.1) 1 40) <|
          some (.go ((appL s1.1 [(Antiphonref20Sent.mk r1.1 r2.1)]), r1.2.2.fConfig, (subI .i64 r1.2.2.fCredit r2.1.fSize), v2.2.2.2.2.2.1, (setM eqI r1.1 (EgressFlow.mk r3.2.2 z3.fVideo) r1.2.2.fFlows), v2.1, v2.2.1, v2.2.2.1, v2.2.2.2.1, v2.2.2.2.2.1))
        )
      )
    )
  )

noncomputable def gEgressOutRun (x0 : EgressOut) : Option (List Antiphonref20Sent × EgressOut) :=
  ((loopF gEgressOutRun.loop1 ([], x0.fConfig, x0.fCredit, x0.fSounds, x0.fFlows, x0.fSched.fMost, x0.fSched.fAt, x0.fSched.fGranted, x0.fSched.fShare, x0.fSched.fLeft)).bind fun f => flC f fun (_v1 : Unit) =>
    none
  )

noncomputable def gEgressOutTick.loop1 (x0 : EgressOut) (x1 : Int) (s1 : Int × List Antiphonref20Sent × (List (Int × EgressFlow))) : Option (Fl (Int × List Antiphonref20Sent × (List (Int × EgressFlow))) (Fl (List Antiphonref20Sent × (List (Int × EgressFlow))) (List Antiphonref20Sent × EgressOut))) :=
  bif (ltI s1.1 (lenL (sortL (keysM x0.fFlows)))) then (
    need (InB s1.1 (lenL (sortL (keysM x0.fFlows)))) <|
    optC (findM eqI (nthI (sortL (keysM x0.fFlows)) s1.1) s1.2.2) (
      none
    ) fun z3 => (
      ((gQueueQueueExpire z3.fQueue x1 x0.fConfig.fAge)).bind fun r1 =>
      ((gEgressAll (nthI (sortL (keysM x0.fFlows)) s1.1) r1.1)).bind fun r2 =>
      need (AppB (lenL s1.2.1) (lenL r2) 40) <|
      some (.go ((addI .i64 s1.1 1), (appL s1.2.1 r2), (setM eqI (nthI (sortL (keysM x0.fFlows)) s1.1) (EgressFlow.mk r1.2 z3.fVideo) s1.2.2)))
    )
  ) else (
    some (.out (.go (s1.2.1, s1.2.2)))
  )

noncomputable def gEgressOutTick (x0 : EgressOut) (x1 : Int) : Option (List Antiphonref20Sent × EgressOut) :=
  need (KeysB (keysM x0.fFlows)) <|
  ((loopF (gEgressOutTick.loop1 x0 x1) (0, [], x0.fFlows)).bind fun f => flC f fun (v1 : List Antiphonref20Sent × (List (Int × EgressFlow))) =>
    some (v1.1, (EgressOut.mk x0.fConfig v1.2 x0.fSched x0.fCredit x0.fSounds))
  )
end Go.Proofs
