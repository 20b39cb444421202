/- What these functions compute, as plain functions. No condition. -/
import Derived.Test.YtkbfbedphdlgiaaTs
import Derived.Test.YtkbfbedphdlgiaaKsD
import Derived.Test.YtkbfbedphdlgiaaRoD
namespace Go.Proofs
open Go.Ab
noncomputable def gReorderBufferFirst (x0 : ReorderBuffer) : Option Int :=
  need (KeysB (keysM x0.fOf)) <|
  need (MinB (keysM x0.fOf)) <|
  some (minL (keysM x0.fOf))

noncomputable def gReorderBufferSkip (x0 : ReorderBuffer) : Option (List Antiphonref09Thing × Nat × ReorderBuffer) :=
  ((gReorderBufferFirst x0)).bind fun r1 =>
  ((gReorderBufferRun (ReorderBuffer.mk x0.fConfig x0.fBegun r1 x0.fOf (addI .i64 x0.fLost (subI .i64 r1 x0.fNext))))).bind fun r2 =>
  some (r2.1, r2.2.1, r2.2.2)

noncomputable def gReorderBufferMissing.loop2 (x0 : ReorderBuffer) (x1 : Int) (s1 : Int × Int × List Int) (s2 : Int × List Int) : Option (Fl (Int × List Int) (Fl (List Int) (Fl (Int × Int × List Int) (Fl (List Int) (List Int))))) :=
  bif (pickB (ltI s2.1 (nthI (sortL (keysM x0.fOf)) s1.1)) (ltI (lenL s2.2) x1) false) then (
    need (AppB (lenL s2.2) 1 8) <|
    some (.go ((addI .i64 s2.1 1), (appL s2.2 [s2.1])))
  ) else (
    some (.out (.go s2.2))
  )

noncomputable def gReorderBufferMissing.loop1 (x0 : ReorderBuffer) (x1 : Int) (s1 : Int × Int × List Int) : Option (Fl (Int × Int × List Int) (Fl (List Int) (List Int))) :=
  bif (ltI s1.1 (lenL (sortL (keysM x0.fOf)))) then (
    need (InB s1.1 (lenL (sortL (keysM x0.fOf)))) <|
    ((loopF (gReorderBufferMissing.loop2 x0 x1 s1) (s1.2.1, s1.2.2)).bind fun f => flC f fun (v2 : List Int) =>
      some (.go ((addI .i64 s1.1 1), (addI .i64 (nthI (sortL (keysM x0.fOf)) s1.1) 1), v2))
    )
  ) else (
    some (.out (.go s1.2.2))
  )

noncomputable def gReorderBufferMissing (x0 : ReorderBuffer) (x1 : Int) : Option (List Int) :=
  need (KeysB (keysM x0.fOf)) <|
  ((loopF (gReorderBufferMissing.loop1 x0 x1) (0, x0.fNext, [])).bind fun f => flC f fun (v1 : List Int) =>
    some v1
  )

noncomputable def gReorderBufferPut.loop2  (s2 : List Antiphonref09Thing × ReorderConfig × Bool × Int × Int × (List (Int × Antiphonref09Thing))) : Option (Fl (List Antiphonref09Thing × ReorderConfig × Bool × Int × Int × (List (Int × Antiphonref09Thing))) (Fl (List Antiphonref09Thing × ReorderConfig × Bool × Int × Int × (List (Int × Antiphonref09Thing))) (List Antiphonref09Thing × Int × ReorderBuffer))) :=
  bif (ltI s2.2.1.fMost (lenL s2.2.2.2.2.2)) then (
    ((gReorderBufferSkip (ReorderBuffer.mk s2.2.1 s2.2.2.1 s2.2.2.2.1 s2.2.2.2.2.2 s2.2.2.2.2.1))).bind fun r2 =>
    need (AppB (lenL s2.1) (lenL r2.1) 32) <|
    some (.go ((appL s2.1 r2.1), r2.2.2.fConfig, r2.2.2.fBegun, r2.2.2.fNext, r2.2.2.fLost, r2.2.2.fOf))
  ) else (
    some (.out (.go (s2.1, s2.2.1, s2.2.2.1, s2.2.2.2.1, s2.2.2.2.2.1, s2.2.2.2.2.2)))
  )

noncomputable def gReorderBufferPut (x0 : ReorderBuffer) (x1 : Antiphonref09Thing) : Option (List Antiphonref09Thing × Int × ReorderBuffer) :=
  ((
    bif (notB x0.fBegun) then (
      some (.go (true, x1.fAt))
    ) else (
      some (.go (x0.fBegun, x0.fNext))
    )
    : Option (Fl (Bool × Int) (List Antiphonref09Thing × Int × ReorderBuffer))).bind fun f => flC f fun (v1 : Bool × Int) =>
    bif (ltI x1.fAt v1.2) then (
      some ([], 13, (ReorderBuffer.mk x0.fConfig v1.1 v1.2 x0.fOf x0.fLost))
    ) else (
      bif (hasM eqI x1.fAt x0.fOf) then (
        some ([], 14, (ReorderBuffer.mk x0.fConfig v1.1 v1.2 x0.fOf x0.fLost))
      ) else (
        ((gReorderBufferRun (ReorderBuffer.mk x0.fConfig v1.1 v1.2 (setM eqI x1.fAt x1 x0.fOf) x0.fLost))).bind fun r1 =>
        ((loopF gReorderBufferPut.loop2 (r1.1, r1.2.2.fConfig, r1.2.2.fBegun, r1.2.2.fNext, r1.2.2.fLost, r1.2.2.fOf)).bind fun f => flC f fun (v2 : List Antiphonref09Thing × ReorderConfig × Bool × Int × Int × (List (Int × Antiphonref09Thing))) =>
          some (v2.1, 0, (ReorderBuffer.mk v2.2.1 v2.2.2.1 v2.2.2.2.1 v2.2.2.2.2.2 v2.2.2.2.2.1))
        )
      )
    )
  )

noncomputable def gReorderBufferTick.loop1 (x1 : Int) (s1 : List Antiphonref09Thing × ReorderConfig × Bool × Int × Int × (List (Int × Antiphonref09Thing))) : Option (Fl (List Antiphonref09Thing × ReorderConfig × Bool × Int × Int × (List (Int × Antiphonref09Thing))) (Fl (List Antiphonref09Thing × ReorderConfig × Bool × Int × Int × (List (Int × Antiphonref09Thing))) (List Antiphonref09Thing × ReorderBuffer))) :=
  bif (ltI 0 (lenL s1.2.2.2.2.2)) then (
    ((gReorderBufferFirst (ReorderBuffer.mk s1.2.1 s1.2.2.1 s1.2.2.2.1 s1.2.2.2.2.2 s1.2.2.2.2.1))).bind fun r1 =>
    bif (ltI (subI .i64 x1 ((getM eqI r1 (Antiphonref09Thing.mk 0 ⟨⟨[]⟩⟩ 0) s1.2.2.2.2.2).fTick)) s1.2.1.fWait) then (
      some (.out (.go (s1.1, s1.2.1, s1.2.2.1, s1.2.2.2.1, s1.2.2.2.2.1, s1.2.2.2.2.2)))
    ) else (
      ((gReorderBufferSkip (ReorderBuffer.mk s1.2.1 s1.2.2.1 s1.2.2.2.1 s1.2.2.2.2.2 s1.2.2.2.2.1))).bind fun r2 =>
      need (AppB (lenL s1.1) (lenL r2.1) 32) <|
      some (.go ((appL s1.1 r2.1), r2.2.2.fConfig, r2.2.2.fBegun, r2.2.2.fNext, r2.2.2.fLost, r2.2.2.fOf))
    )
  ) else (
    some (.out (.go (s1.1, s1.2.1, s1.2.2.1, s1.2.2.2.1, s1.2.2.2.2.1, s1.2.2.2.2.2)))
  )

noncomputable def gReorderBufferTick (x0 : ReorderBuffer) (x1 : Int) : Option (List Antiphonref09Thing × ReorderBuffer) :=
  ((loopF (gReorderBufferTick.loop1 x1) ([], x0.fConfig, x0.fBegun, x0.fNext, x0.fLost, x0.fOf)).bind fun f => flC f fun (v1 : List Antiphonref09Thing × ReorderConfig × Bool × Int × Int × (List (Int × Antiphonref09Thing))) =>
    some (v1.1, (ReorderBuffer.mk v1.2.1 v1.2.2.1 v1.2.2.2.1 v1.2.2.2.2.2 v1.2.2.2.2.1))
  )

noncomputable def gReorderBufferFlush.loop1  (s1 : List Antiphonref09Thing × ReorderConfig × Bool × Int × Int × (List (Int × Antiphonref09Thing))) : Option (Fl (List Antiphonref09Thing × ReorderConfig × Bool × Int × Int × (List (Int × Antiphonref09Thing))) (Fl (List Antiphonref09Thing × ReorderConfig × Bool × Int × Int × (List (Int × Antiphonref09Thing))) (List Antiphonref09Thing × ReorderBuffer))) :=
  bif (ltI 0 (lenL s1.2.2.2.2.2)) then (
    ((gReorderBufferSkip (ReorderBuffer.mk s1.2.1 s1.2.2.1 s1.2.2.2.1 s1.2.2.2.2.2 s1.2.2.2.2.1))).bind fun r1 =>
    need (AppB (lenL s1.1) (lenL r1.1) 32) <|
    some (.go ((appL s1.1 r1.1), r1.2.2.fConfig, r1.2.2.fBegun, r1.2.2.fNext, r1.2.2.fLost, r1.2.2.fOf))
  ) else (
    some (.out (.go (s1.1, s1.2.1, s1.2.2.1, s1.2.2.2.1, s1.2.2.2.2.1, s1.2.2.2.2.2)))
  )

noncomputable def gReorderBufferFlush (x0 : ReorderBuffer) : Option (List Antiphonref09Thing × ReorderBuffer) :=
  ((loopF gReorderBufferFlush.loop1 ([], x0.fConfig, x0.fBegun, x0.fNext, x0.fLost, x0.fOf)).bind fun f => flC f fun (v1 : List Antiphonref09Thing × ReorderConfig × Bool × Int × Int × (List (Int × Antiphonref09Thing))) =>
    some (v1.1, (ReorderBuffer.mk v1.2.1 v1.2.2.1 v1.2.2.2.1 v1.2.2.2.2.2 v1.2.2.2.2.1))
  )
end Go.Proofs
