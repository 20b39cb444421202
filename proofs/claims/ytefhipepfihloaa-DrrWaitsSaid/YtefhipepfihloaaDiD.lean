/- What these functions compute, as plain functions. No condition. -/
import Derived.Test.YtefhipepfihloaaTs
import Derived.Test.YtefhipepfihloaaDcD
import Derived.Test.YtefhipepfihloaaDaD
namespace Go.Proofs
open Go.Ab
noncomputable def gLaw19DrrIdle.loop1 (x0 : Int) (x2 : Int) (s1 : Int × (List (Int × Int)) × (List (Int × Int)) × Int × Int × Bool) : Option (Fl (Int × (List (Int × Int)) × (List (Int × Int)) × Int × Int × Bool) (Fl ((List (Int × Int)) × (List (Int × Int)) × Int × Int × Bool) Bool)) :=
  bif (ltI s1.1 (minI (maxI x2 0) 60)) then (
    ((gDrrSchedChoose (DrrSched.mk s1.2.2.2.1 s1.2.1 s1.2.2.1 s1.2.2.2.2.1 s1.2.2.2.2.2) [(Antiphonref19Head.mk 1 (addI .i64 1 (bitsOp .and .i64 x0 63)))])).bind fun r5 =>
    need (Under (pickB (notB r5.2.1) true (neI r5.1 1)) false ((gDrrSchedLeft r5.2.2 2).isSome = true)) <|
    bif (pickB (pickB (notB r5.2.1) true (neI r5.1 1)) true (neI ((gDrrSchedLeft r5.2.2 2).getD dflt) 0)) then (
      some (.out (.out false))
    ) else (
      ((gDrrSchedTake r5.2.2 (addI .i64 1 (bitsOp .and .i64 x0 63)))).bind fun r6 =>
      some (.go ((addI .i64 s1.1 1), r6.fShare, r6.fLeft, r6.fMost, r6.fAt, r6.fGranted))
    )
  ) else (
    some (.out (.go (s1.2.1, s1.2.2.1, s1.2.2.2.1, s1.2.2.2.2.1, s1.2.2.2.2.2)))
  )

noncomputable def gLaw19DrrIdle.loop2 (x0 : Int) (s2 : Int × Int × (List (Int × Int)) × (List (Int × Int)) × Int × Int × Bool) : Option (Fl (Int × Int × (List (Int × Int)) × (List (Int × Int)) × Int × Int × Bool) (Fl (Int × (List (Int × Int)) × (List (Int × Int)) × Int × Int × Bool) Bool)) :=
  bif (ltI s2.1 1200) then (
    ((gDrrSchedChoose (DrrSched.mk s2.2.2.2.2.1 s2.2.2.1 s2.2.2.2.1 s2.2.2.2.2.2.1 s2.2.2.2.2.2.2) [(Antiphonref19Head.mk 1 (addI .i64 1 (bitsOp .and .i64 x0 63))), (Antiphonref19Head.mk 2 (addI .i64 1 (bitsOp .and .i64 x0 63)))])).bind fun r7 =>
    bif (notB r7.2.1) then (
      some (.out (.out false))
    ) else (
      bif (pickB (eqI r7.1 1) (ltI 0 s2.2.1) false) then (
        some (.out (.go (s2.2.1, r7.2.2.fShare, r7.2.2.fLeft, r7.2.2.fMost, r7.2.2.fAt, r7.2.2.fGranted)))
      ) else (
        ((gDrrSchedTake r7.2.2 (addI .i64 1 (bitsOp .and .i64 x0 63)))).bind fun r8 =>
        bif (eqI r7.1 2) then (
          some (.go ((addI .i64 s2.1 1), (addI .i64 s2.2.1 (addI .i64 1 (bitsOp .and .i64 x0 63))), r8.fShare, r8.fLeft, r8.fMost, r8.fAt, r8.fGranted))
        ) else (
          some (.go ((addI .i64 s2.1 1), s2.2.1, r8.fShare, r8.fLeft, r8.fMost, r8.fAt, r8.fGranted))
        )
      )
    )
  ) else (
    some (.out (.go (s2.2.1, s2.2.2.1, s2.2.2.2.1, s2.2.2.2.2.1, s2.2.2.2.2.2.1, s2.2.2.2.2.2.2)))
  )

noncomputable def gLaw19DrrIdle (x0 : Int) (x1 : Int) (x2 : Int) : Option Bool :=
  ((gDrrNew (addI .i64 1 (bitsOp .and .i64 x0 63)))).bind fun r1 =>
  optC r1.1 (
    (gLaw19Awake).bind fun r2 =>
    bif (pickB (notB r2) true (neI r1.2 0)) then (
      some false
    ) else (
      none
    )
  ) fun o1 => (
    (gLaw19Awake).bind fun r2 =>
    bif (pickB (notB r2) true (neI r1.2 0)) then (
      some false
    ) else (
      ((gDrrSchedAdd o1 1 (addI .i64 (addI .i64 1 (bitsOp .and .i64 x0 63)) (bitsOp .and .i64 x1 255)))).bind fun r3 =>
      bif (neI r3.1 0) then (
        some false
      ) else (
        ((gDrrSchedAdd r3.2 2 (addI .i64 (addI .i64 1 (bitsOp .and .i64 x0 63)) (bitsOp .and .i64 x1 255)))).bind fun r4 =>
        bif (neI r4.1 0) then (
          some false
        ) else (
          ((loopF (gLaw19DrrIdle.loop1 x0 x2) (0, r4.2.fShare, r4.2.fLeft, r4.2.fMost, r4.2.fAt, r4.2.fGranted)).bind fun f => flC f fun (v1 : (List (Int × Int)) × (List (Int × Int)) × Int × Int × Bool) =>
            ((loopF (gLaw19DrrIdle.loop2 x0) (0, 0, v1.1, v1.2.1, v1.2.2.1, v1.2.2.2.1, v1.2.2.2.2)).bind fun f => flC f fun (v2 : Int × (List (Int × Int)) × (List (Int × Int)) × Int × Int × Bool) =>
              some (pickB (pickB (ltI 0 v2.1) (leqI v2.1 (addI .i64 (addI .i64 1 (bitsOp .and .i64 x0 63)) (bitsOp .and .i64 x1 255))) false) (ltI (subI .i64 (addI .i64 (addI .i64 1 (bitsOp .and .i64 x0 63)) (bitsOp .and .i64 x1 255)) v2.1) (addI .i64 1 (bitsOp .and .i64 x0 63))) false)
            )
          )
        )
      )
    )
  )
end Go.Proofs
