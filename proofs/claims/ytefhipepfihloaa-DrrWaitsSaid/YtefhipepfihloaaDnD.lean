/- What these functions compute, as plain functions. No condition. -/
import Derived.Test.YtefhipepfihloaaTs
import Derived.Test.YtefhipepfihloaaDcD
import Derived.Test.YtefhipepfihloaaDaD
namespace Go.Proofs
open Go.Ab
noncomputable def gLaw19DrrWaits.loop1 (x1 : List Int) (_s1 : Unit) : Option (Fl Unit (Fl Unit Bool)) :=
  bif (ltI 0 (minI (lenL x1) 6)) then (
    none
  ) else (
    some (.out (.go ()))
  )

noncomputable def gLaw19DrrWaits.loop2 (x2 : Int) (_s2 : Unit) : Option (Fl Unit (Fl Unit Bool)) :=
  bif (ltI 0 (minI (maxI x2 0) 200)) then (
    none
  ) else (
    some (.out (.go ()))
  )

noncomputable def gLaw19DrrWaits.loop3 (x1 : List Int) (s3 : Int) : Option (Fl Int (Fl Unit Bool)) :=
  bif (ltI s3 0) then (
    need (InB s3 0) <|
    need (Under (ltI 0 s3) true (InB (subI .i64 s3 1) 0)) <|
    need (Under (ltI 0 s3) true (NonZ (minI (lenL x1) 6))) <|
    bif (pickB (ltI 0 s3) (neI (nthI [] s3) (remI (addI .i64 (nthI [] (subI .i64 s3 1)) 1) (minI (lenL x1) 6))) false) then (
      some (.out (.out false))
    ) else (
      some (.go (addI .i64 s3 1))
    )
  ) else (
    some (.out (.go ()))
  )

noncomputable def gLaw19DrrWaits.loop4 (x0 : Int) (x1 : List Int) (s4 : Int × List Antiphonref19Head × (List (Int × Int)) × (List (Int × Int)) × Int × Int × Bool) : Option (Fl (Int × List Antiphonref19Head × (List (Int × Int)) × (List (Int × Int)) × Int × Int × Bool) (Fl (List Antiphonref19Head × (List (Int × Int)) × (List (Int × Int)) × Int × Int × Bool) Bool)) :=
  bif (ltI s4.1 (minI (lenL x1) 6)) then (
    need (InB s4.1 (lenL x1)) <|
    ((gDrrSchedAdd (DrrSched.mk s4.2.2.2.2.1 s4.2.2.1 s4.2.2.2.1 s4.2.2.2.2.2.1 s4.2.2.2.2.2.2) s4.1 (addI .i64 (addI .i64 1 (bitsOp .and .i64 x0 63)) (bitsOp .and .i64 (nthI x1 s4.1) 255)))).bind fun r3 =>
    bif (neI r3.1 0) then (
      some (.out (.out false))
    ) else (
      need (AppB (lenL s4.2.1) 1 16) <|
      some (.go ((addI .i64 s4.1 1), (appL s4.2.1 [(Antiphonref19Head.mk s4.1 (addI .i64 1 (bitsOp .and .i64 x0 63)))]), r3.2.fShare, r3.2.fLeft, r3.2.fMost, r3.2.fAt, r3.2.fGranted))
    )
  ) else (
    some (.out (.go (s4.2.1, s4.2.2.1, s4.2.2.2.1, s4.2.2.2.2.1, s4.2.2.2.2.2.1, s4.2.2.2.2.2.2)))
  )

noncomputable def gLaw19DrrWaits.loop5 (x0 : Int) (x1 : List Int) (x2 : Int) (v4 : List Antiphonref19Head × (List (Int × Int)) × (List (Int × Int)) × Int × Int × Bool) (s5 : Int × Int × List Int × (List (Int × Int)) × (List (Int × Int)) × Int × Int × Bool) : Option (Fl (Int × Int × List Int × (List (Int × Int)) × (List (Int × Int)) × Int × Int × Bool) (Fl (List Int × (List (Int × Int)) × (List (Int × Int)) × Int × Int × Bool) Bool)) :=
  bif (ltI s5.1 (minI (maxI x2 0) 200)) then (
    ((gDrrSchedChoose (DrrSched.mk s5.2.2.2.2.2.1 s5.2.2.2.1 s5.2.2.2.2.1 s5.2.2.2.2.2.2.1 s5.2.2.2.2.2.2.2) v4.1)).bind fun r4 =>
    bif (neB r4.2.1 (ltI 0 (minI (lenL x1) 6))) then (
      some (.out (.out false))
    ) else (
      bif (notB r4.2.1) then (
        some (.out (.go (s5.2.2.1, r4.2.2.fShare, r4.2.2.fLeft, r4.2.2.fMost, r4.2.2.fAt, r4.2.2.fGranted)))
      ) else (
        ((gDrrSchedTake r4.2.2 (addI .i64 1 (bitsOp .and .i64 x0 63)))).bind fun r5 =>
        bif (neI r4.1 s5.2.1) then (
          need (AppB (lenL s5.2.2.1) 1 8) <|
          some (.go ((addI .i64 s5.1 1), r4.1, (appL s5.2.2.1 [r4.1]), r5.fShare, r5.fLeft, r5.fMost, r5.fAt, r5.fGranted))
        ) else (
          some (.go ((addI .i64 s5.1 1), r4.1, s5.2.2.1, r5.fShare, r5.fLeft, r5.fMost, r5.fAt, r5.fGranted))
        )
      )
    )
  ) else (
    some (.out (.go (s5.2.2.1, s5.2.2.2.1, s5.2.2.2.2.1, s5.2.2.2.2.2.1, s5.2.2.2.2.2.2.1, s5.2.2.2.2.2.2.2)))
  )

noncomputable def gLaw19DrrWaits.loop6 (x1 : List Int) (v5 : List Int × (List (Int × Int)) × (List (Int × Int)) × Int × Int × Bool) (s6 : Int) : Option (Fl Int (Fl Unit Bool)) :=
  bif (ltI s6 (lenL v5.1)) then (
    need (InB s6 (lenL v5.1)) <|
    need (Under (ltI 0 s6) true (InB (subI .i64 s6 1) (lenL v5.1))) <|
    need (Under (ltI 0 s6) true (NonZ (minI (lenL x1) 6))) <|
    bif (pickB (ltI 0 s6) (neI (nthI v5.1 s6) (remI (addI .i64 (nthI v5.1 (subI .i64 s6 1)) 1) (minI (lenL x1) 6))) false) then (
      some (.out (.out false))
    ) else (
      some (.go (addI .i64 s6 1))
    )
  ) else (
    some (.out (.go ()))
  )

noncomputable def gLaw19DrrWaits (x0 : Int) (x1 : List Int) (x2 : Int) : Option Bool :=
  ((gDrrNew (addI .i64 1 (bitsOp .and .i64 x0 63)))).bind fun r1 =>
  optC r1.1 (
    (gLaw19Awake).bind fun r2 =>
    bif (pickB (notB r2) true (neI r1.2 0)) then (
      some false
    ) else (
      ((loopF (gLaw19DrrWaits.loop1 x1) ()).bind fun f => flC f fun (_v1 : Unit) =>
        ((loopF (gLaw19DrrWaits.loop2 x2) ()).bind fun f => flC f fun (_v2 : Unit) =>
          ((loopF (gLaw19DrrWaits.loop3 x1) 0).bind fun f => flC f fun (_v3 : Unit) =>
            some true
          )
        )
      )
    )
  ) fun o1 => (
    (gLaw19Awake).bind fun r2 =>
    bif (pickB (notB r2) true (neI r1.2 0)) then (
      some false
    ) else (
      ((loopF (gLaw19DrrWaits.loop4 x0 x1) (0, [], o1.fShare, o1.fLeft, o1.fMost, o1.fAt, o1.fGranted)).bind fun f => flC f fun (v4 : List Antiphonref19Head × (List (Int × Int)) × (List (Int × Int)) × Int × Int × Bool) =>
        ((loopF (gLaw19DrrWaits.loop5 x0 x1 x2 v4) (0, (-1), [], v4.2.1, v4.2.2.1, v4.2.2.2.1, v4.2.2.2.2.1, v4.2.2.2.2.2)).bind fun f => flC f fun (v5 : List Int × (List (Int × Int)) × (List (Int × Int)) × Int × Int × Bool) =>
          ((loopF (gLaw19DrrWaits.loop6 x1 v5) 0).bind fun f => flC f fun (_v6 : Unit) =>
            some true
          )
        )
      )
    )
  )
end Go.Proofs
