/- What these functions compute, as plain functions. No condition. -/
import Derived.Test.YtahmmpmmmkbemaaTs
namespace Go.Proofs
open Go.Ab
noncomputable def gRef10Drop (x0 : Antiphonref10Maker) : Option Antiphonref10Maker :=
  some (Antiphonref10Maker.mk x0.fVideo x0.fBytes x0.fUnits x0.fWait [] x0.fWhole (addI .i64 x0.fLost (lenL x0.fOpen)))

noncomputable def gRef10Size.loop1 (x0 : List Antiphonref10Unit) (s1 : Int × Int) : Option (Fl (Int × Int) (Fl Int Int)) :=
  bif (ltI s1.1 (lenL x0)) then (
    need (InB s1.1 (lenL x0)) <|
    some (.go ((addI .i64 s1.1 1), (addI .i64 s1.2 (lenS ((nthI x0 s1.1).fText)))))
  ) else (
    some (.out (.go s1.2))
  )

noncomputable def gRef10Size (x0 : List Antiphonref10Unit) : Option Int :=
  ((loopF (gRef10Size.loop1 x0) (0, 0)).bind fun f => flC f fun (v1 : Int) =>
    some v1
  )

noncomputable def gRef10Put (x0 : Antiphonref10Maker) (x1 : Antiphonref10Unit) : Option (Antiphonref10Maker × List Antiphonref10Unit) :=
  ((
    bif (ltI 0 (lenL x0.fOpen)) then (
      need (InB (subI .i64 (lenL x0.fOpen) 1) (lenL x0.fOpen)) <|
      some (.go (pickB (pickB (eqI x1.fAt (addI .i64 ((nthI x0.fOpen (subI .i64 (lenL x0.fOpen) 1)).fAt) 1)) (eqI x1.fTime ((nthI x0.fOpen (subI .i64 (lenL x0.fOpen) 1)).fTime)) false) (notB x1.fStart) false))
    ) else (
      some (.go false)
    )
    : Option (Fl Bool (Antiphonref10Maker × List Antiphonref10Unit))).bind fun f => flC f fun (v1 : Bool) =>
    ((
      bif (notB v1) then (
        ((gRef10Drop x0)).bind fun r1 =>
        some (.go r1)
      ) else (
        some (.go x0)
      )
      : Option (Fl Antiphonref10Maker (Antiphonref10Maker × List Antiphonref10Unit))).bind fun f => flC f fun (v2 : Antiphonref10Maker) =>
      bif (pickB (pickB (notB v1) v2.fVideo false) (notB x1.fStart) false) then (
        some ((Antiphonref10Maker.mk v2.fVideo v2.fBytes v2.fUnits v2.fWait v2.fOpen v2.fWhole (addI .i64 v2.fLost 1)), [])
      ) else (
        need (AppB 0 (lenL v2.fOpen) 48) <|
        need (AppB (lenL v2.fOpen) 1 48) <|
        need (Under (ltI v2.fUnits ((lenL v2.fOpen) + 1)) false ((gRef10Size (appL (appL [] v2.fOpen) [x1])).isSome = true)) <|
        bif (pickB (ltI v2.fUnits ((lenL v2.fOpen) + 1)) true (ltI v2.fBytes ((gRef10Size (appL (appL [] v2.fOpen) [x1])).getD dflt))) then (
          ((gRef10Drop (Antiphonref10Maker.mk v2.fVideo v2.fBytes v2.fUnits v2.fWait (appL (appL [] v2.fOpen) [x1]) v2.fWhole v2.fLost))).bind fun r2 =>
          some (r2, [])
        ) else (
          bif (pickB v2.fVideo (notB x1.fMarker) false) then (
            some ((Antiphonref10Maker.mk v2.fVideo v2.fBytes v2.fUnits v2.fWait (appL (appL [] v2.fOpen) [x1]) v2.fWhole v2.fLost), [])
          ) else (
            some ((Antiphonref10Maker.mk v2.fVideo v2.fBytes v2.fUnits v2.fWait [] (addI .i64 v2.fWhole 1) v2.fLost), (appL (appL [] v2.fOpen) [x1]))
          )
        )
      )
    )
  )

noncomputable def gRef10Tick (x0 : Antiphonref10Maker) (x1 : Int) : Option (Antiphonref10Maker × Bool) :=
  need (Under (eqI (lenL x0.fOpen) 0) false (InB 0 (lenL x0.fOpen))) <|
  bif (pickB (eqI (lenL x0.fOpen) 0) true (ltI (subI .i64 x1 ((nthI x0.fOpen 0).fTick)) x0.fWait)) then (
    some (x0, false)
  ) else (
    ((gRef10Drop x0)).bind fun r1 =>
    some (r1, true)
  )
end Go.Proofs
