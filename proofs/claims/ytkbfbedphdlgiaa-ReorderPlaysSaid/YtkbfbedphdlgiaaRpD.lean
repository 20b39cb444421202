/- What these functions compute, as plain functions. No condition. -/
import Derived.Test.YtkbfbedphdlgiaaTs
namespace Go.Proofs
open Go.Ab
noncomputable def gRef09Run.loop1  (s1 : Nat × List Antiphonref09Thing × Antiphonref09Buffer) : Option (Fl (Nat × List Antiphonref09Thing × Antiphonref09Buffer) (Fl (Nat × List Antiphonref09Thing × Antiphonref09Buffer) (Antiphonref09Buffer × List Antiphonref09Thing × Nat))) :=
  need (Under (ltI 0 (lenL s1.2.2.fL)) true (InB 0 (lenL s1.2.2.fL))) <|
  bif (pickB (ltI 0 (lenL s1.2.2.fL)) (eqI ((nthI s1.2.2.fL 0).fAt) s1.2.2.fNext) false) then (
    need (InB 0 (lenL s1.2.2.fL)) <|
    need (AppB (lenL s1.2.1) 1 32) <|
    need (CutB 1 (lenL s1.2.2.fL) (lenL s1.2.2.fL)) <|
    some (.go ((s1.1 + 1), (appL s1.2.1 [(nthI s1.2.2.fL 0)]), (Antiphonref09Buffer.mk s1.2.2.fMost s1.2.2.fWait s1.2.2.fBegun (addI .i64 s1.2.2.fNext 1) (cutL s1.2.2.fL 1 (lenL s1.2.2.fL)) s1.2.2.fLost)))
  ) else (
    some (.out (.go (s1.1, s1.2.1, s1.2.2)))
  )

noncomputable def gRef09Run (x0 : Antiphonref09Buffer) : Option (Antiphonref09Buffer × List Antiphonref09Thing × Nat) :=
  ((loopF gRef09Run.loop1 (0, [], x0)).bind fun f => flC f fun (v1 : Nat × List Antiphonref09Thing × Antiphonref09Buffer) =>
    some (v1.2.2, v1.2.1, v1.1)
  )

noncomputable def gRef09Skip (x0 : Antiphonref09Buffer) : Option (Antiphonref09Buffer × List Antiphonref09Thing × Nat) :=
  need (InB 0 (lenL x0.fL)) <|
  need (InB 0 (lenL x0.fL)) <|
  ((gRef09Run (Antiphonref09Buffer.mk x0.fMost x0.fWait x0.fBegun ((nthI x0.fL 0).fAt) x0.fL (addI .i64 x0.fLost (subI .i64 ((nthI x0.fL 0).fAt) x0.fNext))))).bind fun r1 =>
  some (r1.1, r1.2.1, r1.2.2)

noncomputable def gRef09With.loop1 (x0 : List Antiphonref09Thing) (x1 : Antiphonref09Thing) (s1 : Int × Bool × List Antiphonref09Thing) : Option (Fl (Int × Bool × List Antiphonref09Thing) (Fl (Bool × List Antiphonref09Thing) (List Antiphonref09Thing))) :=
  bif (ltI s1.1 (lenL x0)) then (
    need (InB s1.1 (lenL x0)) <|
    ((
      bif (pickB (notB s1.2.1) (ltI x1.fAt ((nthI x0 s1.1).fAt)) false) then (
        need (AppB (lenL s1.2.2) 1 32) <|
        some (.go (true, (appL s1.2.2 [x1])))
      ) else (
        some (.go (s1.2.1, s1.2.2))
      )
      : Option (Fl (Bool × List Antiphonref09Thing) (Fl (Int × Bool × List Antiphonref09Thing) (Fl (Bool × List Antiphonref09Thing) (List Antiphonref09Thing))))).bind fun f => flC f fun (v2 : Bool × List Antiphonref09Thing) =>
      need (AppB (lenL v2.2) 1 32) <|
      some (.go ((addI .i64 s1.1 1), v2.1, (appL v2.2 [(nthI x0 s1.1)])))
    )
  ) else (
    some (.out (.go (s1.2.1, s1.2.2)))
  )

noncomputable def gRef09With (x0 : List Antiphonref09Thing) (x1 : Antiphonref09Thing) : Option (List Antiphonref09Thing) :=
  ((loopF (gRef09With.loop1 x0 x1) (0, false, [])).bind fun f => flC f fun (v1 : Bool × List Antiphonref09Thing) =>
    ((
      bif (notB v1.1) then (
        need (AppB (lenL v1.2) 1 32) <|
        some (.go (appL v1.2 [x1]))
      ) else (
        some (.go v1.2)
      )
      : Option (Fl (List Antiphonref09Thing) (List Antiphonref09Thing))).bind fun f => flC f fun (v3 : List Antiphonref09Thing) =>
      some v3
    )
  )

noncomputable def gRef09Put.loop2 (x1 : Antiphonref09Thing) (v1 : Antiphonref09Buffer) (s2 : Int) : Option (Fl Int (Fl Unit (Antiphonref09Buffer × List Antiphonref09Thing × Int))) :=
  bif (ltI s2 (lenL v1.fL)) then (
    need (InB s2 (lenL v1.fL)) <|
    bif (eqI ((nthI v1.fL s2).fAt) x1.fAt) then (
      some (.out (.out (v1, [], 14)))
    ) else (
      some (.go (addI .i64 s2 1))
    )
  ) else (
    some (.out (.go ()))
  )

noncomputable def gRef09Put.loop3  (s3 : List Antiphonref09Thing × Antiphonref09Buffer) : Option (Fl (List Antiphonref09Thing × Antiphonref09Buffer) (Fl (List Antiphonref09Thing × Antiphonref09Buffer) (Antiphonref09Buffer × List Antiphonref09Thing × Int))) :=
  bif (ltI s3.2.fMost (lenL s3.2.fL)) then (
    ((gRef09Skip s3.2)).bind fun r3 =>
    need (AppB (lenL s3.1) (lenL r3.2.1) 32) <|
    some (.go ((appL s3.1 r3.2.1), r3.1))
  ) else (
    some (.out (.go (s3.1, s3.2)))
  )

noncomputable def gRef09Put (x0 : Antiphonref09Buffer) (x1 : Antiphonref09Thing) : Option (Antiphonref09Buffer × List Antiphonref09Thing × Int) :=
  ((
    bif (notB x0.fBegun) then (
      some (.go (Antiphonref09Buffer.mk x0.fMost x0.fWait true x1.fAt x0.fL x0.fLost))
    ) else (
      some (.go x0)
    )
    : Option (Fl Antiphonref09Buffer (Antiphonref09Buffer × List Antiphonref09Thing × Int))).bind fun f => flC f fun (v1 : Antiphonref09Buffer) =>
    bif (ltI x1.fAt v1.fNext) then (
      some (v1, [], 13)
    ) else (
      ((loopF (gRef09Put.loop2 x1 v1) 0).bind fun f => flC f fun (_v2 : Unit) =>
        ((gRef09With v1.fL x1)).bind fun r1 =>
        ((gRef09Run (Antiphonref09Buffer.mk v1.fMost v1.fWait v1.fBegun v1.fNext r1 v1.fLost))).bind fun r2 =>
        ((loopF gRef09Put.loop3 (r2.2.1, r2.1)).bind fun f => flC f fun (v3 : List Antiphonref09Thing × Antiphonref09Buffer) =>
          some (v3.2, v3.1, 0)
        )
      )
    )
  )

noncomputable def gRef09Tick.loop1 (x1 : Int) (s1 : List Antiphonref09Thing × Antiphonref09Buffer) : Option (Fl (List Antiphonref09Thing × Antiphonref09Buffer) (Fl (List Antiphonref09Thing × Antiphonref09Buffer) (Antiphonref09Buffer × List Antiphonref09Thing))) :=
  need (Under (ltI 0 (lenL s1.2.fL)) true (InB 0 (lenL s1.2.fL))) <|
  bif (pickB (ltI 0 (lenL s1.2.fL)) (leqI s1.2.fWait (subI .i64 x1 ((nthI s1.2.fL 0).fTick))) false) then (
    ((gRef09Skip s1.2)).bind fun r1 =>
    need (AppB (lenL s1.1) (lenL r1.2.1) 32) <|
    some (.go ((appL s1.1 r1.2.1), r1.1))
  ) else (
    some (.out (.go (s1.1, s1.2)))
  )

noncomputable def gRef09Tick (x0 : Antiphonref09Buffer) (x1 : Int) : Option (Antiphonref09Buffer × List Antiphonref09Thing) :=
  ((loopF (gRef09Tick.loop1 x1) ([], x0)).bind fun f => flC f fun (v1 : List Antiphonref09Thing × Antiphonref09Buffer) =>
    some (v1.2, v1.1)
  )

noncomputable def gRef09Missing.loop2 (x0 : Antiphonref09Buffer) (x1 : Int) (s1 : Int × Int × List Int) (s2 : Int × List Int) : Option (Fl (Int × List Int) (Fl (List Int) (Fl (Int × Int × List Int) (Fl (List Int) (List Int))))) :=
  bif (pickB (ltI s2.1 ((nthI x0.fL s1.1).fAt)) (ltI (lenL s2.2) x1) false) then (
    need (AppB (lenL s2.2) 1 8) <|
    some (.go ((addI .i64 s2.1 1), (appL s2.2 [s2.1])))
  ) else (
    some (.out (.go s2.2))
  )

noncomputable def gRef09Missing.loop1 (x0 : Antiphonref09Buffer) (x1 : Int) (s1 : Int × Int × List Int) : Option (Fl (Int × Int × List Int) (Fl (List Int) (List Int))) :=
  bif (ltI s1.1 (lenL x0.fL)) then (
    need (InB s1.1 (lenL x0.fL)) <|
    ((loopF (gRef09Missing.loop2 x0 x1 s1) (s1.2.1, s1.2.2)).bind fun f => flC f fun (v2 : List Int) =>
      some (.go ((addI .i64 s1.1 1), (addI .i64 ((nthI x0.fL s1.1).fAt) 1), v2))
    )
  ) else (
    some (.out (.go s1.2.2))
  )

noncomputable def gRef09Missing (x0 : Antiphonref09Buffer) (x1 : Int) : Option (List Int) :=
  ((loopF (gRef09Missing.loop1 x0 x1) (0, x0.fNext, [])).bind fun f => flC f fun (v1 : List Int) =>
    some v1
  )
end Go.Proofs
