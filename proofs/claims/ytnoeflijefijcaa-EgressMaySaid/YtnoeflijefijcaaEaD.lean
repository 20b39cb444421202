/- What these functions compute, as plain functions. No condition. -/
import Derived.Test.YtnoeflijefijcaaTs
import Derived.Test.YtnoeflijefijcaaDcD
import Derived.Test.YtnoeflijefijcaaQuD
namespace Go.Proofs
open Go.Ab
noncomputable def gEgressConfigCheck (x0 : EgressConfig) : Option Int :=
  bif (pickB (pickB (pickB (pickB (pickB (ltI x0.fFrames 1) true (ltI 1024 x0.fFrames)) true (ltI x0.fBytes 1)) true (ltI 16777216 x0.fBytes)) true (ltI x0.fAge 1)) true (ltI 1099511627776 x0.fAge)) then (
    some 5
  ) else (
    bif (pickB (pickB (pickB (ltI x0.fMost 1) true (ltI 16777216 x0.fMost)) true (ltI x0.fGuard 1)) true (ltI 1024 x0.fGuard)) then (
      some 5
    ) else (
      some 0
    )
  )

noncomputable def gEgressNew (x0 : EgressConfig) : Option (Option EgressOut × Int) :=
  ((gEgressConfigCheck x0)).bind fun r1 =>
  bif (neI r1 0) then (
    some (none, r1)
  ) else (
    ((gDrrNew x0.fMost)).bind fun r2 =>
    optC r2.1 (
      bif (neI r2.2 0) then (
        some (none, r2.2)
      ) else (
        none
      )
    ) fun o1 => (
      bif (neI r2.2 0) then (
        some (none, r2.2)
      ) else (
        some ((some (EgressOut.mk x0 [] o1 0 0)), 0)
      )
    )
  )

noncomputable def gEgressAll.loop1 (x0 : Int) (x1 : List Antiphonref18Item) (s1 : Int × List Antiphonref20Sent) : Option (Fl (Int × List Antiphonref20Sent) (Fl (List Antiphonref20Sent) (List Antiphonref20Sent))) :=
  bif (ltI s1.1 (lenL x1)) then (
    need (InB s1.1 (lenL x1)) <|
    need (AppB (lenL s1.2) 1 40) <|
    some (.go ((addI .i64 s1.1 1), (appL s1.2 [(Antiphonref20Sent.mk x0 (nthI x1 s1.1))])))
  ) else (
    some (.out (.go s1.2))
  )

noncomputable def gEgressAll (x0 : Int) (x1 : List Antiphonref18Item) : Option (List Antiphonref20Sent) :=
  ((loopF (gEgressAll.loop1 x0 x1) (0, [])).bind fun f => flC f fun (v1 : List Antiphonref20Sent) =>
    some v1
  )

noncomputable def gEgressOutAdd (x0 : EgressOut) (x1 : Int) (x2 : Bool) (x3 : Int) : Option (Int × EgressOut) :=
  optC (findM eqI x1 x0.fFlows) (
    ((
      bif x2 then (
        ((gDrrSchedAdd x0.fSched x1 x3)).bind fun r1 =>
        bif (neI r1.1 0) then (
          some (.out (r1.1, (EgressOut.mk x0.fConfig x0.fFlows r1.2 x0.fCredit x0.fSounds)))
        ) else (
          some (.go (r1.2.fMost, r1.2.fAt, r1.2.fGranted, r1.2.fShare, r1.2.fLeft, true))
        )
      ) else (
        some (.go (x0.fSched.fMost, x0.fSched.fAt, x0.fSched.fGranted, x0.fSched.fShare, x0.fSched.fLeft, false))
      )
      : Option (Fl (Int × Int × Bool × (List (Int × Int)) × (List (Int × Int)) × Bool) (Int × EgressOut))).bind fun f => flC f fun (v1 : Int × Int × Bool × (List (Int × Int)) × (List (Int × Int)) × Bool) =>
      ((gQueueNew x0.fConfig.fFrames x0.fConfig.fBytes)).bind fun r2 =>
      optC r2.1 (
        bif (neI r2.2 0) then (
          some (r2.2, (EgressOut.mk x0.fConfig x0.fFlows (DrrSched.mk v1.1 v1.2.2.2.1 v1.2.2.2.2.1 v1.2.1 v1.2.2.1) x0.fCredit x0.fSounds))
        ) else (
          none
        )
      ) fun o1 => (
        bif (neI r2.2 0) then (
          some (r2.2, (EgressOut.mk x0.fConfig x0.fFlows (DrrSched.mk v1.1 v1.2.2.2.1 v1.2.2.2.2.1 v1.2.1 v1.2.2.1) x0.fCredit x0.fSounds))
        ) else (
          some (0, (EgressOut.mk x0.fConfig (setM eqI x1 (EgressFlow.mk o1 v1.2.2.2.2.2) x0.fFlows) (DrrSched.mk v1.1 v1.2.2.2.1 v1.2.2.2.2.1 v1.2.1 v1.2.2.1) x0.fCredit x0.fSounds))
        )
      )
    )
  ) fun _z1 => (
    some (10, x0)
  )

noncomputable def gEgressOutRemove (x0 : EgressOut) (x1 : Int) : Option (List Antiphonref20Sent × Int × EgressOut) :=
  optC (findM eqI x1 x0.fFlows) (
    some ([], 12, x0)
  ) fun z1 => (
    ((
      bif z1.fVideo then (
        ((gDrrSchedRemove x0.fSched x1)).bind fun r1 =>
        some (.go (r1.2.fMost, r1.2.fAt, r1.2.fGranted, r1.2.fShare, r1.2.fLeft, true))
      ) else (
        some (.go (x0.fSched.fMost, x0.fSched.fAt, x0.fSched.fGranted, x0.fSched.fShare, x0.fSched.fLeft, false))
      )
      : Option (Fl (Int × Int × Bool × (List (Int × Int)) × (List (Int × Int)) × Bool) (List Antiphonref20Sent × Int × EgressOut))).bind fun f => flC f fun (v1 : Int × Int × Bool × (List (Int × Int)) × (List (Int × Int)) × Bool) =>
      ((gQueueQueueBreak z1.fQueue)).bind fun r2 =>
      ((gEgressAll x1 r2.1)).bind fun r3 =>
      some (r3, 0, (EgressOut.mk x0.fConfig (delM eqI x1 x0.fFlows) (DrrSched.mk v1.1 v1.2.2.2.1 v1.2.2.2.2.1 v1.2.1 v1.2.2.1) x0.fCredit x0.fSounds))
    )
  )

noncomputable def gEgressOutPut (x0 : EgressOut) (x1 : Int) (x2 : Antiphonref18Item) : Option (List Antiphonref20Sent × Bool × EgressOut) :=
  optC (findM eqI x1 x0.fFlows) (
    some ([], false, x0)
  ) fun z1 => (
    bif (ltI x0.fConfig.fMost x2.fSize) then (
      some ([], false, x0)
    ) else (
      ((gQueueQueuePut z1.fQueue (Antiphonref18Item.mk x2.fN x2.fSize x2.fTick (pickB x2.fKey true (notB z1.fVideo))))).bind fun r1 =>
      ((gEgressAll x1 r1.1)).bind fun r2 =>
      some (r2, r1.2.1, (EgressOut.mk x0.fConfig (setM eqI x1 (EgressFlow.mk r1.2.2 z1.fVideo) x0.fFlows) x0.fSched x0.fCredit x0.fSounds))
    )
  )

noncomputable def gEgressOutBroken (x0 : EgressOut) (x1 : Int) : Option Bool :=
  optC (findM eqI x1 x0.fFlows) (
    some false
  ) fun z1 => (
    need ((gQueueQueueBroken z1.fQueue).isSome = true) <|
    some ((gQueueQueueBroken z1.fQueue).getD dflt)
  )

noncomputable def gEgressOutWaits (x0 : EgressOut) (x1 : Int) : Option (Int × Int) :=
  optC (findM eqI x1 x0.fFlows) (
    some (0, 0)
  ) fun z1 => (
    ((gQueueQueueLen z1.fQueue)).bind fun r1 =>
    ((gQueueQueueSize z1.fQueue)).bind fun r2 =>
    some (r1, r2)
  )

noncomputable def gEgressOutGrant (x0 : EgressOut) (x1 : Int) : Option EgressOut :=
  some (EgressOut.mk x0.fConfig x0.fFlows x0.fSched (minI (addI .i64 x0.fCredit (minI (maxI x1 0) 1099511627776)) 1099511627776) x0.fSounds)

noncomputable def gEgressOutCredit (x0 : EgressOut) : Option Int :=
  some x0.fCredit

end Go.Proofs
