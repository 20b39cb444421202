/- What these functions compute, as plain functions. No condition. -/
import Derived.Test.YtnbfecfhejopgaaTs
import Derived.Test.YtnbfecfhejopgaaDcD
namespace Go.Proofs
open Go.Ab
noncomputable def gLaw19Awake.loop1  (s1 : Int × (List (Int × Int)) × (List (Int × Int)) × Int × Int × Bool) : Option (Fl (Int × (List (Int × Int)) × (List (Int × Int)) × Int × Int × Bool) (Fl ((List (Int × Int)) × (List (Int × Int)) × Int × Int × Bool) Bool)) :=
  bif (ltI s1.1 6) then (
    need (InB s1.1 6) <|
    ((gDrrSchedChoose (DrrSched.mk s1.2.2.2.1 s1.2.1 s1.2.2.1 s1.2.2.2.2.1 s1.2.2.2.2.2) [(Antiphonref19Head.mk 1 10), (Antiphonref19Head.mk 2 10)])).bind fun r4 =>
    bif (pickB (neI r4.1 (nthI [1, 2, 2, 1, 2, 2] s1.1)) true (notB r4.2.1)) then (
      some (.out (.out false))
    ) else (
      ((gDrrSchedTake r4.2.2 10)).bind fun r5 =>
      some (.go ((addI .i64 s1.1 1), r5.fShare, r5.fLeft, r5.fMost, r5.fAt, r5.fGranted))
    )
  ) else (
    some (.out (.go (s1.2.1, s1.2.2.1, s1.2.2.2.1, s1.2.2.2.2.1, s1.2.2.2.2.2)))
  )

noncomputable def gLaw19Awake : Option Bool :=
  ((gDrrNew 10)).bind fun r1 =>
  optC r1.1 (
    bif (pickB (neI r1.2 0) true true) then (
      some false
    ) else (
      none
    )
  ) fun o1 => (
    bif (pickB (neI r1.2 0) true false) then (
      some false
    ) else (
      ((gDrrSchedAdd o1 1 10)).bind fun r2 =>
      bif (neI r2.1 0) then (
        some false
      ) else (
        ((gDrrSchedAdd r2.2 2 20)).bind fun r3 =>
        bif (neI r3.1 0) then (
          some false
        ) else (
          ((loopF gLaw19Awake.loop1 (0, r3.2.fShare, r3.2.fLeft, r3.2.fMost, r3.2.fAt, r3.2.fGranted)).bind fun f => flC f fun (_v1 : (List (Int × Int)) × (List (Int × Int)) × Int × Int × Bool) =>
            some true
          )
        )
      )
    )
  )
end Go.Proofs
