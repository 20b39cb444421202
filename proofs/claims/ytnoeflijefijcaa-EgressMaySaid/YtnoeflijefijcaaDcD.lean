/- What these functions compute, as plain functions. No condition. -/
import Derived.Test.YtnoeflijefijcaaTs
import Derived.Test.YtnoeflijefijcaaM04
namespace Go.Proofs
open Go.Ab
noncomputable def gDrrNew (x0 : Int) : Option (Option DrrSched × Int) :=
  bif (pickB (ltI x0 1) true (ltI 16777216 x0)) then (
    some (none, 5)
  ) else (
    some ((some (DrrSched.mk x0 [] [] 0 false)), 0)
  )

noncomputable def gDrrSchedAdd (x0 : DrrSched) (x1 : Int) (x2 : Int) : Option (Int × DrrSched) :=
  bif (pickB (ltI x2 x0.fMost) true (ltI 16777216 x2)) then (
    some (5, x0)
  ) else (
    bif (ltI 0 (getM eqI x1 0 x0.fShare)) then (
      some (10, x0)
    ) else (
      some (0, (DrrSched.mk x0.fMost (setM eqI x1 x2 x0.fShare) x0.fLeft x0.fAt x0.fGranted))
    )
  )

noncomputable def gDrrSchedRemove (x0 : DrrSched) (x1 : Int) : Option (Int × DrrSched) :=
  bif (eqI (getM eqI x1 0 x0.fShare) 0) then (
    some (12, x0)
  ) else (
    ((
      bif (eqI x0.fAt x1) then (
        some (.go false)
      ) else (
        some (.go x0.fGranted)
      )
      : Option (Fl Bool (Int × DrrSched))).bind fun f => flC f fun (v1 : Bool) =>
      some (0, (DrrSched.mk x0.fMost (delM eqI x1 x0.fShare) (delM eqI x1 x0.fLeft) x0.fAt v1))
    )
  )

noncomputable def gDrrSchedKnown.loop1 (x0 : DrrSched) (x1 : List Antiphonref19Head) (s1 : Int × (List (Int × Int))) : Option (Fl (Int × (List (Int × Int))) (Fl (List (Int × Int)) (List (Int × Int)))) :=
  bif (ltI s1.1 (lenL x1)) then (
    need (InB s1.1 (lenL x1)) <|
    bif (pickB (pickB (ltI 0 (getM eqI ((nthI x1 s1.1).fId) 0 x0.fShare)) (leqI 0 ((nthI x1 s1.1).fSize)) false) (leqI ((nthI x1 s1.1).fSize) x0.fMost) false) then (
      some (.go ((addI .i64 s1.1 1), (setM eqI ((nthI x1 s1.1).fId) ((nthI x1 s1.1).fSize) s1.2)))
    ) else (
      some (.go ((addI .i64 s1.1 1), s1.2))
    )
  ) else (
    some (.out (.go s1.2))
  )

noncomputable def gDrrSchedKnown (x0 : DrrSched) (x1 : List Antiphonref19Head) : Option (List (Int × Int)) :=
  ((loopF (gDrrSchedKnown.loop1 x0 x1) (0, [])).bind fun f => flC f fun (v1 : (List (Int × Int))) =>
    some v1
  )

noncomputable def gDrrAfter (x0 : List Int) (x1 : Int) : Option Int :=
  ((gSlicesBinarySearchIntInt x0 x1)).bind fun r1 =>
  ((
    bif r1.2 then (
      some (.go (addI .i64 r1.1 1))
    ) else (
      some (.go r1.1)
    )
    : Option (Fl Int Int)).bind fun f => flC f fun (v1 : Int) =>
    need (NonZ (lenL x0)) <|
    need (InB (remI v1 (lenL x0)) (lenL x0)) <|
    some (nthI x0 (remI v1 (lenL x0)))
  )

noncomputable def gDrrSchedChoose.loop3 (x0 : DrrSched) (r1 : (List (Int × Int))) (s3 : Int × Bool × (List (Int × Int))) : Option (Fl (Int × Bool × (List (Int × Int))) (Fl Unit (Int × Bool × DrrSched))) :=
  ((
    bif (notB s3.2.1) then (
      some (.go (true, (setM eqI s3.1 (addI .i64 (getM eqI s3.1 0 s3.2.2) (getM eqI s3.1 0 x0.fShare)) s3.2.2)))
    ) else (
      some (.go (s3.2.1, s3.2.2))
    )
    : Option (Fl (Bool × (List (Int × Int))) (Fl (Int × Bool × (List (Int × Int))) (Fl Unit (Int × Bool × DrrSched))))).bind fun f => flC f fun (v4 : Bool × (List (Int × Int))) =>
    bif (leqI (getM eqI s3.1 0 r1) (getM eqI s3.1 0 v4.2)) then (
      some (.out (.out (s3.1, true, (DrrSched.mk x0.fMost x0.fShare v4.2 s3.1 v4.1))))
    ) else (
      ((gDrrAfter (sortL (keysM r1)) s3.1)).bind fun r3 =>
      some (.go (r3, false, v4.2))
    )
  )

noncomputable def gDrrSchedChoose (x0 : DrrSched) (x1 : List Antiphonref19Head) : Option (Int × Bool × DrrSched) :=
  ((gDrrSchedKnown x0 x1)).bind fun r1 =>
  need (KeysB (keysM r1)) <|
  bif (eqI (lenL (sortL (keysM r1))) 0) then (
    some (0, false, (DrrSched.mk x0.fMost x0.fShare (keepM (fun k1 => (bif (notB (hasM eqI k1 r1)) then false else true)) x0.fLeft) x0.fAt false))
  ) else (
    ((
      bif (notB (hasM eqI x0.fAt r1)) then (
        ((gDrrAfter (sortL (keysM r1)) x0.fAt)).bind fun r2 =>
        some (.go (r2, false))
      ) else (
        some (.go (x0.fAt, x0.fGranted))
      )
      : Option (Fl (Int × Bool) (Int × Bool × DrrSched))).bind fun f => flC f fun (v2 : Int × Bool) =>
      ((loopF (gDrrSchedChoose.loop3 x0 r1) (v2.1, v2.2, (keepM (fun k1 => (bif (notB (hasM eqI k1 r1)) then false else true)) x0.fLeft))).bind fun f => flC f fun (_v3 : Unit) =>
        none
      )
    )
  )

noncomputable def gDrrSchedTake (x0 : DrrSched) (x1 : Int) : Option DrrSched :=
  bif (pickB (pickB x0.fGranted (leqI 0 x1) false) (leqI x1 (getM eqI x0.fAt 0 x0.fLeft)) false) then (
    some (DrrSched.mk x0.fMost x0.fShare (setM eqI x0.fAt (subI .i64 (getM eqI x0.fAt 0 x0.fLeft) x1) x0.fLeft) x0.fAt x0.fGranted)
  ) else (
    some x0
  )
end Go.Proofs
