/- What these functions compute, as plain functions. No condition. -/
import Derived.Test.YtahmmpmmmkbemaaTs
namespace Go.Proofs
open Go.Ab
noncomputable def gFrameMakerOpen (x0 : FrameMaker) : Option Int :=
  some (lenL x0.fOpen.fUnits)

noncomputable def gFrameMakerCounts (x0 : FrameMaker) : Option (Int × Int) :=
  some (x0.fWhole, x0.fLost)

noncomputable def gFrameFrameKey (x0 : FrameFrame) : Option Bool :=
  need (Under (ltI 0 (lenL x0.fUnits)) true (InB 0 (lenL x0.fUnits))) <|
  some (pickB (ltI 0 (lenL x0.fUnits)) ((nthI x0.fUnits 0).fKey) false)

noncomputable def gFrameFrameTime (x0 : FrameFrame) : Option Int :=
  bif (eqI (lenL x0.fUnits) 0) then (
    some 0
  ) else (
    need (InB 0 (lenL x0.fUnits)) <|
    some ((nthI x0.fUnits 0).fTime)
  )

noncomputable def gFrameFrameSize.loop1 (x0 : FrameFrame) (s1 : Int × Int) : Option (Fl (Int × Int) (Fl Int Int)) :=
  bif (ltI s1.1 (lenL x0.fUnits)) then (
    need (InB s1.1 (lenL x0.fUnits)) <|
    some (.go ((addI .i64 s1.1 1), (addI .i64 s1.2 (lenS ((nthI x0.fUnits s1.1).fText)))))
  ) else (
    some (.out (.go s1.2))
  )

noncomputable def gFrameFrameSize (x0 : FrameFrame) : Option Int :=
  ((loopF (gFrameFrameSize.loop1 x0) (0, 0)).bind fun f => flC f fun (v1 : Int) =>
    some v1
  )

noncomputable def gFrameConfigCheck (x0 : FrameConfig) : Option Int :=
  bif (pickB (pickB (pickB (pickB (pickB (ltI x0.fBytes 1) true (ltI 1048576 x0.fBytes)) true (ltI x0.fUnits 1)) true (ltI 1024 x0.fUnits)) true (ltI x0.fWait 0)) true (ltI 1099511627776 x0.fWait)) then (
    some 5
  ) else (
    some 0
  )

noncomputable def gFrameMakerDrop (x0 : FrameMaker) : Option FrameMaker :=
  ((gFrameMakerOpen x0)).bind fun r1 =>
  some (FrameMaker.mk x0.fConfig (FrameFrame.mk []) x0.fWhole (addI .i64 x0.fLost r1))

noncomputable def gFrameMakerFollows (x0 : FrameMaker) (x1 : Antiphonref10Unit) : Option Bool :=
  ((gFrameMakerOpen x0)).bind fun r1 =>
  bif (eqI r1 0) then (
    some false
  ) else (
    need (InB (subI .i64 r1 1) (lenL x0.fOpen.fUnits)) <|
    some (pickB (pickB (eqI x1.fAt (addI .i64 ((nthI x0.fOpen.fUnits (subI .i64 r1 1)).fAt) 1)) (eqI x1.fTime ((nthI x0.fOpen.fUnits (subI .i64 r1 1)).fTime)) false) (notB x1.fStart) false)
  )

noncomputable def gFrameNew (x0 : FrameConfig) : Option (Option FrameMaker × Int) :=
  ((gFrameConfigCheck x0)).bind fun r1 =>
  bif (neI r1 0) then (
    some (none, r1)
  ) else (
    some ((some (FrameMaker.mk x0 (FrameFrame.mk []) 0 0)), 0)
  )

noncomputable def gFrameMakerTick (x0 : FrameMaker) (x1 : Int) : Option (Bool × FrameMaker) :=
  ((gFrameMakerOpen x0)).bind fun r1 =>
  need (Under (eqI r1 0) false (InB 0 (lenL x0.fOpen.fUnits))) <|
  bif (pickB (eqI r1 0) true (ltI (subI .i64 x1 ((nthI x0.fOpen.fUnits 0).fTick)) x0.fConfig.fWait)) then (
    some (false, x0)
  ) else (
    ((gFrameMakerDrop x0)).bind fun r2 =>
    some (true, r2)
  )

noncomputable def gFrameMakerPut (x0 : FrameMaker) (x1 : Antiphonref10Unit) : Option (FrameFrame × Bool × FrameMaker) :=
  ((
    ((gFrameMakerFollows x0 x1)).bind fun r1 =>
    bif (notB r1) then (
      ((gFrameMakerDrop x0)).bind fun r2 =>
      bif (pickB r2.fConfig.fVideo (notB x1.fStart) false) then (
        some (.out ((FrameFrame.mk []), false, (FrameMaker.mk r2.fConfig r2.fOpen r2.fWhole (addI .i64 r2.fLost 1))))
      ) else (
        some (.go r2)
      )
    ) else (
      some (.go x0)
    )
    : Option (Fl FrameMaker (FrameFrame × Bool × FrameMaker))).bind fun f => flC f fun (v1 : FrameMaker) =>
    need (AppB 0 (lenL v1.fOpen.fUnits) 48) <|
    need (AppB (lenL v1.fOpen.fUnits) 1 48) <|
    ((gFrameMakerOpen (FrameMaker.mk v1.fConfig (FrameFrame.mk (appL v1.fOpen.fUnits [x1])) v1.fWhole v1.fLost))).bind fun r3 =>
    need (Under (ltI v1.fConfig.fUnits r3) false ((gFrameFrameSize (FrameFrame.mk (appL v1.fOpen.fUnits [x1]))).isSome = true)) <|
    bif (pickB (ltI v1.fConfig.fUnits r3) true (ltI v1.fConfig.fBytes ((gFrameFrameSize (FrameFrame.mk (appL v1.fOpen.fUnits [x1]))).getD dflt))) then (
      ((gFrameMakerDrop (FrameMaker.mk v1.fConfig (FrameFrame.mk (appL v1.fOpen.fUnits [x1])) v1.fWhole v1.fLost))).bind fun r4 =>
      some ((FrameFrame.mk []), false, r4)
    ) else (
      bif (pickB v1.fConfig.fVideo (notB x1.fMarker) false) then (
        some ((FrameFrame.mk []), false, (FrameMaker.mk v1.fConfig (FrameFrame.mk (appL v1.fOpen.fUnits [x1])) v1.fWhole v1.fLost))
      ) else (
        some ((FrameFrame.mk (appL v1.fOpen.fUnits [x1])), true, (FrameMaker.mk v1.fConfig (FrameFrame.mk []) (addI .i64 v1.fWhole 1) v1.fLost))
      )
    )
  )
end Go.Proofs
