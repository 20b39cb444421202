/- What these functions compute, as plain functions. No condition. -/
import Derived.Test.YtnoeflijefijcaaTs
namespace Go.Proofs
open Go.Ab
noncomputable def gRef19Find.loop1 (x0 : Antiphonref19Sched) (x1 : Int) (s1 : Int) : Option (Fl Int (Fl Unit Int)) :=
  bif (ltI s1 (lenL x0.fL)) then (
    need (InB s1 (lenL x0.fL)) <|
    bif (eqI ((nthI x0.fL s1).fId) x1) then (
      some (.out (.out s1))
    ) else (
      some (.go (addI .i64 s1 1))
    )
  ) else (
    some (.out (.go ()))
  )

noncomputable def gRef19Find (x0 : Antiphonref19Sched) (x1 : Int) : Option Int :=
  ((loopF (gRef19Find.loop1 x0 x1) 0).bind fun f => flC f fun (_v1 : Unit) =>
    some (-1)
  )

noncomputable def gRef19Add.loop1 (x0 : Antiphonref19Sched) (x1 : Int) (x2 : Int) (s1 : Int × Bool × List Antiphonref19Flow) : Option (Fl (Int × Bool × List Antiphonref19Flow) (Fl (Bool × List Antiphonref19Flow) (Antiphonref19Sched × Int))) :=
  bif (ltI s1.1 (lenL x0.fL)) then (
    need (InB s1.1 (lenL x0.fL)) <|
    ((
      bif (pickB (notB s1.2.1) (ltI x1 ((nthI x0.fL s1.1).fId)) false) then (
        need (AppB (lenL s1.2.2) 1 24) <|
        some (.go (true, (appL s1.2.2 [(Antiphonref19Flow.mk x1 x2 0)])))
      ) else (
        some (.go (s1.2.1, s1.2.2))
      )
      : Option (Fl (Bool × List Antiphonref19Flow) (Fl (Int × Bool × List Antiphonref19Flow) (Fl (Bool × List Antiphonref19Flow) (Antiphonref19Sched × Int))))).bind fun f => flC f fun (v2 : Bool × List Antiphonref19Flow) =>
      need (AppB (lenL v2.2) 1 24) <|
      some (.go ((addI .i64 s1.1 1), v2.1, (appL v2.2 [(nthI x0.fL s1.1)])))
    )
  ) else (
    some (.out (.go (s1.2.1, s1.2.2)))
  )

noncomputable def gRef19Add (x0 : Antiphonref19Sched) (x1 : Int) (x2 : Int) : Option (Antiphonref19Sched × Int) :=
  bif (pickB (ltI x2 x0.fMost) true (ltI 16777216 x2)) then (
    some (x0, 5)
  ) else (
    ((gRef19Find x0 x1)).bind fun r1 =>
    bif (leqI 0 r1) then (
      some (x0, 10)
    ) else (
      ((loopF (gRef19Add.loop1 x0 x1 x2) (0, false, [])).bind fun f => flC f fun (v1 : Bool × List Antiphonref19Flow) =>
        ((
          bif (notB v1.1) then (
            need (AppB (lenL v1.2) 1 24) <|
            some (.go (appL v1.2 [(Antiphonref19Flow.mk x1 x2 0)]))
          ) else (
            some (.go v1.2)
          )
          : Option (Fl (List Antiphonref19Flow) (Antiphonref19Sched × Int))).bind fun f => flC f fun (v3 : List Antiphonref19Flow) =>
          some ((Antiphonref19Sched.mk x0.fMost v3 x0.fAt x0.fGranted), 0)
        )
      )
    )
  )

noncomputable def gRef19Size.loop1 (x0 : Antiphonref19Sched) (x1 : List Antiphonref19Head) (x2 : Int) (s1 : Int × Int) : Option (Fl (Int × Int) (Fl Int Int)) :=
  bif (ltI s1.1 (lenL x1)) then (
    need (InB s1.1 (lenL x1)) <|
    bif (pickB (pickB (eqI ((nthI x1 s1.1).fId) x2) (leqI 0 ((nthI x1 s1.1).fSize)) false) (leqI ((nthI x1 s1.1).fSize) x0.fMost) false) then (
      some (.go ((addI .i64 s1.1 1), (nthI x1 s1.1).fSize))
    ) else (
      some (.go ((addI .i64 s1.1 1), s1.2))
    )
  ) else (
    some (.out (.go s1.2))
  )

noncomputable def gRef19Size (x0 : Antiphonref19Sched) (x1 : List Antiphonref19Head) (x2 : Int) : Option Int :=
  ((loopF (gRef19Size.loop1 x0 x1 x2) (0, (-1))).bind fun f => flC f fun (v1 : Int) =>
    some v1
  )

noncomputable def gRef19After.loop1 (x0 : Antiphonref19Sched) (x1 : List Antiphonref19Head) (x2 : Int) (s1 : Int) : Option (Fl Int (Fl Unit Int)) :=
  bif (ltI s1 (lenL x0.fL)) then (
    need (InB s1 (lenL x0.fL)) <|
    need (Under (ltI x2 ((nthI x0.fL s1).fId)) true ((gRef19Size x0 x1 ((nthI x0.fL s1).fId)).isSome = true)) <|
    bif (pickB (ltI x2 ((nthI x0.fL s1).fId)) (leqI 0 ((gRef19Size x0 x1 ((nthI x0.fL s1).fId)).getD dflt)) false) then (
      some (.out (.out s1))
    ) else (
      some (.go (addI .i64 s1 1))
    )
  ) else (
    some (.out (.go ()))
  )

noncomputable def gRef19After.loop2 (x0 : Antiphonref19Sched) (x1 : List Antiphonref19Head) (s2 : Int) : Option (Fl Int (Fl Unit Int)) :=
  bif (ltI s2 (lenL x0.fL)) then (
    need (InB s2 (lenL x0.fL)) <|
    ((gRef19Size x0 x1 ((nthI x0.fL s2).fId))).bind fun r1 =>
    bif (leqI 0 r1) then (
      some (.out (.out s2))
    ) else (
      some (.go (addI .i64 s2 1))
    )
  ) else (
    some (.out (.go ()))
  )

noncomputable def gRef19After (x0 : Antiphonref19Sched) (x1 : List Antiphonref19Head) (x2 : Int) : Option Int :=
  ((loopF (gRef19After.loop1 x0 x1 x2) 0).bind fun f => flC f fun (_v1 : Unit) =>
    ((loopF (gRef19After.loop2 x0 x1) 0).bind fun f => flC f fun (_v2 : Unit) =>
      some (-1)
    )
  )

noncomputable def gRef19Choose.loop1 (x0 : Antiphonref19Sched) (x1 : List Antiphonref19Head) (s1 : Int × List Antiphonref19Flow) : Option (Fl (Int × List Antiphonref19Flow) (Fl (List Antiphonref19Flow) (Antiphonref19Sched × Int × Bool))) :=
  bif (ltI s1.1 (lenL x0.fL)) then (
    need (InB s1.1 (lenL x0.fL)) <|
    need (InB s1.1 (lenL s1.2)) <|
    ((gRef19Size x0 x1 ((nthI s1.2 s1.1).fId))).bind fun r1 =>
    bif (ltI r1 0) then (
      need (InB s1.1 (lenL x0.fL)) <|
      need (InB s1.1 (lenL s1.2)) <|
      some (.go ((addI .i64 s1.1 1), (setI s1.2 s1.1 (Antiphonref19Flow.mk ((nthI s1.2 s1.1).fId) ((nthI s1.2 s1.1).fShare) 0))))
    ) else (
      some (.go ((addI .i64 s1.1 1), s1.2))
    )
  ) else (
    some (.out (.go s1.2))
  )

noncomputable def gRef19Choose.loop3 (x0 : Antiphonref19Sched) (x1 : List Antiphonref19Head) (s3 : Int × Int × Int × Bool × List Antiphonref19Flow) : Option (Fl (Int × Int × Int × Bool × List Antiphonref19Flow) (Fl (Int × Bool × List Antiphonref19Flow) (Antiphonref19Sched × Int × Bool))) :=
  bif (ltI s3.1 1000) then (
    ((
      need (InB s3.2.1 (lenL x0.fL)) <|
      need (InB s3.2.1 (lenL s3.2.2.2.2)) <|
      ((
        bif (notB s3.2.2.2.1) then (
          need (InB s3.2.1 (lenL x0.fL)) <|
          need (InB s3.2.1 (lenL s3.2.2.2.2)) <|
          need (InB s3.2.1 (lenL x0.fL)) <|
          need (InB s3.2.1 (lenL s3.2.2.2.2)) <|
          need (InB s3.2.1 (lenL x0.fL)) <|
          need (InB s3.2.1 (lenL s3.2.2.2.2)) <|
          some (.go (true, (setI s3.2.2.2.2 s3.2.1 (Antiphonref19Flow.mk ((nthI s3.2.2.2.2 s3.2.1).fId) ((nthI s3.2.2.2.2 s3.2.1).fShare) (addI .i64 ((nthI s3.2.2.2.2 s3.2.1).fLeft) ((nthI s3.2.2.2.2 s3.2.1).fShare))))))
        ) else (
          some (.go (s3.2.2.2.1, s3.2.2.2.2))
        )
        : Option (Fl (Bool × List Antiphonref19Flow) (Fl (Int × List Antiphonref19Flow) (Fl (Int × Int × Int × Bool × List Antiphonref19Flow) (Fl (Int × Bool × List Antiphonref19Flow) (Antiphonref19Sched × Int × Bool)))))).bind fun f => flC f fun (v5 : Bool × List Antiphonref19Flow) =>
        need (InB s3.2.1 (lenL x0.fL)) <|
        need (InB s3.2.1 (lenL v5.2)) <|
        need ((lenL v5.2) = (lenL x0.fL)) <|
        ((gRef19Size (Antiphonref19Sched.mk x0.fMost v5.2 ((nthI s3.2.2.2.2 s3.2.1).fId) v5.1) x1 ((nthI s3.2.2.2.2 s3.2.1).fId))).bind fun r5 =>
        bif (leqI r5 ((nthI v5.2 s3.2.1).fLeft)) then (
          need ((lenL v5.2) = (lenL x0.fL)) <|
          some (.out (.out (.out ((Antiphonref19Sched.mk x0.fMost v5.2 ((nthI s3.2.2.2.2 s3.2.1).fId) v5.1), (nthI s3.2.2.2.2 s3.2.1).fId, true))))
        ) else (
          need ((lenL v5.2) = (lenL x0.fL)) <|
          ((gRef19After (Antiphonref19Sched.mk x0.fMost v5.2 ((nthI s3.2.2.2.2 s3.2.1).fId) v5.1) x1 ((nthI s3.2.2.2.2 s3.2.1).fId))).bind fun r6 =>
          some (.go (r6, v5.2))
        )
      )
      : Option (Fl (Int × List Antiphonref19Flow) (Fl (Int × Int × Int × Bool × List Antiphonref19Flow) (Fl (Int × Bool × List Antiphonref19Flow) (Antiphonref19Sched × Int × Bool))))).bind fun f => flC f fun (v4 : Int × List Antiphonref19Flow) =>
      some (.go ((addI .i64 s3.1 1), v4.1, (nthI s3.2.2.2.2 s3.2.1).fId, false, v4.2))
    )
  ) else (
    some (.out (.go (s3.2.2.1, s3.2.2.2.1, s3.2.2.2.2)))
  )

noncomputable def gRef19Choose (x0 : Antiphonref19Sched) (x1 : List Antiphonref19Head) : Option (Antiphonref19Sched × Int × Bool) :=
  need (AppB 0 (lenL x0.fL) 24) <|
  ((loopF (gRef19Choose.loop1 x0 x1) (0, x0.fL)).bind fun f => flC f fun (v1 : List Antiphonref19Flow) =>
    need ((lenL v1) = (lenL x0.fL)) <|
    ((gRef19After (Antiphonref19Sched.mk x0.fMost v1 x0.fAt x0.fGranted) x1 0)).bind fun r2 =>
    bif (ltI r2 0) then (
      need ((lenL v1) = (lenL x0.fL)) <|
      some ((Antiphonref19Sched.mk x0.fMost v1 x0.fAt false), 0, false)
    ) else (
      need ((lenL v1) = (lenL x0.fL)) <|
      ((gRef19Find (Antiphonref19Sched.mk x0.fMost v1 x0.fAt x0.fGranted) x0.fAt)).bind fun r3 =>
      ((
        need (Under (ltI r3 0) false ((lenL v1) = (lenL x0.fL))) <|
        need (Under (ltI r3 0) false ((gRef19Size (Antiphonref19Sched.mk x0.fMost v1 x0.fAt x0.fGranted) x1 x0.fAt).isSome = true)) <|
        bif (pickB (ltI r3 0) true (ltI ((gRef19Size (Antiphonref19Sched.mk x0.fMost v1 x0.fAt x0.fGranted) x1 x0.fAt).getD dflt) 0)) then (
          need ((lenL v1) = (lenL x0.fL)) <|
          ((gRef19After (Antiphonref19Sched.mk x0.fMost v1 x0.fAt x0.fGranted) x1 x0.fAt)).bind fun r4 =>
          some (.go (r4, false))
        ) else (
          some (.go (r3, x0.fGranted))
        )
        : Option (Fl (Int × Bool) (Antiphonref19Sched × Int × Bool))).bind fun f => flC f fun (v2 : Int × Bool) =>
        ((loopF (gRef19Choose.loop3 x0 x1) (0, v2.1, x0.fAt, v2.2, v1)).bind fun f => flC f fun (v3 : Int × Bool × List Antiphonref19Flow) =>
          need ((lenL v3.2.2) = (lenL x0.fL)) <|
          some ((Antiphonref19Sched.mk x0.fMost v3.2.2 v3.1 v3.2.1), 0, false)
        )
      )
    )
  )

noncomputable def gRef19Take (x0 : Antiphonref19Sched) (x1 : Int) : Option Antiphonref19Sched :=
  ((gRef19Find x0 x0.fAt)).bind fun r1 =>
  need (Under (pickB (pickB (notB x0.fGranted) true (ltI r1 0)) true (ltI x1 0)) false (InB r1 (lenL x0.fL))) <|
  bif (pickB (pickB (pickB (notB x0.fGranted) true (ltI r1 0)) true (ltI x1 0)) true (ltI ((nthI x0.fL r1).fLeft) x1)) then (
    some x0
  ) else (
    need (AppB 0 (lenL x0.fL) 24) <|
    need (InB r1 (lenL x0.fL)) <|
    need (InB r1 (lenL x0.fL)) <|
    some (Antiphonref19Sched.mk x0.fMost (setI x0.fL r1 (Antiphonref19Flow.mk ((nthI x0.fL r1).fId) ((nthI x0.fL r1).fShare) (subI .i64 ((nthI x0.fL r1).fLeft) x1))) x0.fAt x0.fGranted)
  )
end Go.Proofs
