/- What these functions compute, as plain functions. No condition. -/
import Derived.Test.YtnbfecfhejopgaaTs
import Derived.Test.YtnbfecfhejopgaaDcD
import Derived.Test.YtnbfecfhejopgaaDaD
namespace Go.Proofs
open Go.Ab
noncomputable def gLaw19Near (x0 : Int) (x1 : Int) (x2 : Int) (x3 : Int) (x4 : Int) : Option Bool :=
  some (pickB (leqI (subI .i64 (mulI .i64 x0 x3) (mulI .i64 x1 x2)) (addI .i64 (addI .i64 (mulI .i64 x2 x3) (mulI .i64 x4 x3)) (mulI .i64 x4 x2))) (leqI (negI .i64 (subI .i64 (mulI .i64 x0 x3) (mulI .i64 x1 x2))) (addI .i64 (addI .i64 (mulI .i64 x2 x3) (mulI .i64 x4 x3)) (mulI .i64 x4 x2))) false)

noncomputable def gLaw19DrrFair.loop1 (x1 : List Int) (_s1 : Unit) : Option (Fl Unit (Fl Unit Bool)) :=
  bif (ltI 0 (minI (lenL x1) 5)) then (
    need (InB 0 (lenL x1)) <|
    need (AppB 0 1 8) <|
    none
  ) else (
    some (.out (.go ()))
  )

noncomputable def gLaw19DrrFair.loop4 (x0 : Int) (x1 : List Int) (x2 : List Int) (s4 : Int × List Antiphonref19Head) : Option (Fl (Int × List Antiphonref19Head) (Fl (List Antiphonref19Head) (Fl Unit (Fl Unit Bool)))) :=
  bif (ltI s4.1 (minI (lenL x1) 5)) then (
    need (NonZ (lenL x2)) <|
    need (InB (remI (addI .i64 0 (mulI .i64 3 s4.1)) (lenL x2)) (lenL x2)) <|
    need (NonZ (addI .i64 1 (bitsOp .and .i64 x0 63))) <|
    need (AppB (lenL s4.2) 1 16) <|
    some (.go ((addI .i64 s4.1 1), (appL s4.2 [(Antiphonref19Head.mk s4.1 (addI .i64 (remI (bitsOp .and .i64 (nthI x2 (remI (addI .i64 0 (mulI .i64 3 s4.1)) (lenL x2))) 65535) (addI .i64 1 (bitsOp .and .i64 x0 63))) 1))])))
  ) else (
    some (.out (.go s4.2))
  )

noncomputable def gLaw19DrrFair.loop2 (x0 : Int) (x1 : List Int) (x2 : List Int) (_s2 : Unit) : Option (Fl Unit (Fl Unit Bool)) :=
  bif (ltI 0 150) then (
    ((loopF (gLaw19DrrFair.loop4 x0 x1 x2) (0, [])).bind fun f => flC f fun (_v4 : List Antiphonref19Head) =>
      none
    )
  ) else (
    some (.out (.go ()))
  )

noncomputable def gLaw19DrrFair.loop5 (x0 : Int) (x1 : List Int) (s5 : Int × List Int × (List (Int × Int)) × (List (Int × Int)) × Int × Int × Bool) : Option (Fl (Int × List Int × (List (Int × Int)) × (List (Int × Int)) × Int × Int × Bool) (Fl (List Int × (List (Int × Int)) × (List (Int × Int)) × Int × Int × Bool) Bool)) :=
  bif (ltI s5.1 (minI (lenL x1) 5)) then (
    need (InB s5.1 (lenL x1)) <|
    need (AppB (lenL s5.2.1) 1 8) <|
    need (InB s5.1 ((lenL s5.2.1) + 1)) <|
    ((gDrrSchedAdd (DrrSched.mk s5.2.2.2.2.1 s5.2.2.1 s5.2.2.2.1 s5.2.2.2.2.2.1 s5.2.2.2.2.2.2) s5.1 (nthI (appL s5.2.1 [(addI .i64 (addI .i64 1 (bitsOp .and .i64 x0 63)) (bitsOp .and .i64 (nthI x1 s5.1) 255))]) s5.1))).bind fun r3 =>
    bif (neI r3.1 0) then (
      some (.out (.out false))
    ) else (
      some (.go ((addI .i64 s5.1 1), (appL s5.2.1 [(addI .i64 (addI .i64 1 (bitsOp .and .i64 x0 63)) (bitsOp .and .i64 (nthI x1 s5.1) 255))]), r3.2.fShare, r3.2.fLeft, r3.2.fMost, r3.2.fAt, r3.2.fGranted))
    )
  ) else (
    some (.out (.go (s5.2.1, s5.2.2.1, s5.2.2.2.1, s5.2.2.2.2.1, s5.2.2.2.2.2.1, s5.2.2.2.2.2.2)))
  )

noncomputable def gLaw19DrrFair.loop8 (x0 : Int) (x1 : List Int) (x2 : List Int) (s6 : Int × (List (Int × Int)) × (List (Int × Int)) × Int × Int × Bool × List Int × List Int) (s8 : Int × List Antiphonref19Head) : Option (Fl (Int × List Antiphonref19Head) (Fl (List Antiphonref19Head) (Fl ((List (Int × Int)) × (List (Int × Int)) × Int × Int × Bool × List Int × List Int) (Fl (Int × (List (Int × Int)) × (List (Int × Int)) × Int × Int × Bool × List Int × List Int) (Fl ((List (Int × Int)) × (List (Int × Int)) × Int × Int × Bool × List Int × List Int) Bool))))) :=
  bif (ltI s8.1 (minI (lenL x1) 5)) then (
    need (NonZ (lenL x2)) <|
    need (InB (remI (addI .i64 s6.1 (mulI .i64 3 s8.1)) (lenL x2)) (lenL x2)) <|
    need (NonZ (addI .i64 1 (bitsOp .and .i64 x0 63))) <|
    need (AppB (lenL s8.2) 1 16) <|
    some (.go ((addI .i64 s8.1 1), (appL s8.2 [(Antiphonref19Head.mk s8.1 (addI .i64 (remI (bitsOp .and .i64 (nthI x2 (remI (addI .i64 s6.1 (mulI .i64 3 s8.1)) (lenL x2))) 65535) (addI .i64 1 (bitsOp .and .i64 x0 63))) 1))])))
  ) else (
    some (.out (.go s8.2))
  )

noncomputable def gLaw19DrrFair.loop11 (x0 : Int) (x1 : List Int) (r4 : Int × Bool × DrrSched) (s10 : Int) (v9 : List Int) (s6 : Int × (List (Int × Int)) × (List (Int × Int)) × Int × Int × Bool × List Int × List Int) (v5 : List Int × (List (Int × Int)) × (List (Int × Int)) × Int × Int × Bool) (v8 : List Antiphonref19Head) (s11 : Int) : Option (Fl Int (Fl Unit (Fl Int (Fl Unit (Fl ((List (Int × Int)) × (List (Int × Int)) × Int × Int × Bool × List Int × List Int) (Fl (Int × (List (Int × Int)) × (List (Int × Int)) × Int × Int × Bool × List Int × List Int) (Fl ((List (Int × Int)) × (List (Int × Int)) × Int × Int × Bool × List Int × List Int) Bool))))))) :=
  bif (ltI s11 (minI (lenL x1) 5)) then (
    need (InB s10 (minI (lenL x1) 5)) <|
    need (0 < s6.2.2.2.2.2.2.1.length - s10.toNat) <|
    need (InB s11 (minI (lenL x1) 5)) <|
    need (0 < s6.2.2.2.2.2.2.1.length - s11.toNat) <|
    need (InB s10 (lenL v5.1)) <|
    need (InB s11 (lenL v5.1)) <|
    ((gLaw19Near (nthI (setI s6.2.2.2.2.2.2.1 r4.1 (addI .i64 (nthI s6.2.2.2.2.2.2.1 r4.1) ((nthI v8 r4.1).fSize))) s10) (nthI (setI s6.2.2.2.2.2.2.1 r4.1 (addI .i64 (nthI s6.2.2.2.2.2.2.1 r4.1) ((nthI v8 r4.1).fSize))) s11) (nthI v5.1 s10) (nthI v5.1 s11) (addI .i64 1 (bitsOp .and .i64 x0 63)))).bind fun r6 =>
    need (Under (leqI 40 s6.1) true (Under (notB r6) false (InB s10 (minI (lenL x1) 5)))) <|
    need (Under (leqI 40 s6.1) true (Under (notB r6) false (0 < s6.2.2.2.2.2.2.1.length - s10.toNat))) <|
    need (Under (leqI 40 s6.1) true (Under (notB r6) false (InB s10 (minI (lenL x1) 5)))) <|
    need (Under (leqI 40 s6.1) true (Under (notB r6) false (0 < v9.length - s10.toNat))) <|
    need (Under (leqI 40 s6.1) true (Under (notB r6) false (InB s11 (minI (lenL x1) 5)))) <|
    need (Under (leqI 40 s6.1) true (Under (notB r6) false (0 < s6.2.2.2.2.2.2.1.length - s11.toNat))) <|
    need (Under (leqI 40 s6.1) true (Under (notB r6) false (InB s11 (minI (lenL x1) 5)))) <|
    need (Under (leqI 40 s6.1) true (Under (notB r6) false (0 < v9.length - s11.toNat))) <|
    need (Under (leqI 40 s6.1) true (Under (notB r6) false (InB s10 (lenL v5.1)))) <|
    need (Under (leqI 40 s6.1) true (Under (notB r6) false (InB s11 (lenL v5.1)))) <|
    need (Under (leqI 40 s6.1) true (Under (notB r6) false ((gLaw19Near (subI .i64 (nthI (setI s6.2.2.2.2.2.2.1 r4.1 (addI .i64 (nthI s6.2.2.2.2.2.2.1 r4.1) ((nthI v8 r4.1).fSize))) s10) (nthI v9 s10)) (subI .i64 (nthI (setI s6.2.2.2.2.2.2.1 r4.1 (addI .i64 (nthI s6.2.2.2.2.2.2.1 r4.1) ((nthI v8 r4.1).fSize))) s11) (nthI v9 s11)) (nthI v5.1 s10) (nthI v5.1 s11) (addI .i64 1 (bitsOp .and .i64 x0 63))).isSome = true))) <|
    bif (pickB (notB r6) true (pickB (leqI 40 s6.1) (notB ((gLaw19Near (subI .i64 (nthI (setI s6.2.2.2.2.2.2.1 r4.1 (addI .i64 (nthI s6.2.2.2.2.2.2.1 r4.1) ((nthI v8 r4.1).fSize))) s10) (nthI v9 s10)) (subI .i64 (nthI (setI s6.2.2.2.2.2.2.1 r4.1 (addI .i64 (nthI s6.2.2.2.2.2.2.1 r4.1) ((nthI v8 r4.1).fSize))) s11) (nthI v9 s11)) (nthI v5.1 s10) (nthI v5.1 s11) (addI .i64 1 (bitsOp .and .i64 x0 63))).getD dflt)) false)) then (
      some (.out (.out (.out (.out (.out (.out (.out false)))))))
    ) else (
      some (.go (addI .i64 s11 1))
    )
  ) else (
    some (.out (.go ()))
  )

noncomputable def gLaw19DrrFair.loop10 (x0 : Int) (x1 : List Int) (r4 : Int × Bool × DrrSched) (v9 : List Int) (s6 : Int × (List (Int × Int)) × (List (Int × Int)) × Int × Int × Bool × List Int × List Int) (v5 : List Int × (List (Int × Int)) × (List (Int × Int)) × Int × Int × Bool) (v8 : List Antiphonref19Head) (s10 : Int) : Option (Fl Int (Fl Unit (Fl ((List (Int × Int)) × (List (Int × Int)) × Int × Int × Bool × List Int × List Int) (Fl (Int × (List (Int × Int)) × (List (Int × Int)) × Int × Int × Bool × List Int × List Int) (Fl ((List (Int × Int)) × (List (Int × Int)) × Int × Int × Bool × List Int × List Int) Bool))))) :=
  bif (ltI s10 (minI (lenL x1) 5)) then (
    ((loopF (gLaw19DrrFair.loop11 x0 x1 r4 s10 v9 s6 v5 v8) 0).bind fun f => flC f fun (_v11 : Unit) =>
      some (.go (addI .i64 s10 1))
    )
  ) else (
    some (.out (.go ()))
  )

noncomputable def gLaw19DrrFair.loop6 (x0 : Int) (x1 : List Int) (x2 : List Int) (v5 : List Int × (List (Int × Int)) × (List (Int × Int)) × Int × Int × Bool) (s6 : Int × (List (Int × Int)) × (List (Int × Int)) × Int × Int × Bool × List Int × List Int) : Option (Fl (Int × (List (Int × Int)) × (List (Int × Int)) × Int × Int × Bool × List Int × List Int) (Fl ((List (Int × Int)) × (List (Int × Int)) × Int × Int × Bool × List Int × List Int) Bool)) :=
  bif (ltI s6.1 150) then (
    ((
      ((loopF (gLaw19DrrFair.loop8 x0 x1 x2 s6) (0, [])).bind fun f => flC f fun (v8 : List Antiphonref19Head) =>
        ((gDrrSchedChoose (DrrSched.mk s6.2.2.2.1 s6.2.1 s6.2.2.1 s6.2.2.2.2.1 s6.2.2.2.2.2.1) v8)).bind fun r4 =>
        bif (pickB (pickB (notB r4.2.1) true (ltI r4.1 0)) true (leqI (minI (lenL x1) 5) r4.1)) then (
          some (.out (.out (.out false)))
        ) else (
          need (InB r4.1 (lenL v8)) <|
          ((gDrrSchedTake r4.2.2 ((nthI v8 r4.1).fSize))).bind fun r5 =>
          need (InB r4.1 (minI (lenL x1) 5)) <|
          need (0 < s6.2.2.2.2.2.2.1.length - r4.1.toNat) <|
          need (InB r4.1 (lenL v8)) <|
          need (InB r4.1 (minI (lenL x1) 5)) <|
          need (InB r4.1 (lenL s6.2.2.2.2.2.2.1)) <|
          ((
            bif (eqI s6.1 40) then (
              need ((lenL s6.2.2.2.2.2.2.2) = (minI (lenL x1) 5)) <|
              need ((lenL s6.2.2.2.2.2.2.1) = (minI (lenL x1) 5)) <|
              some (.go (setI s6.2.2.2.2.2.2.1 r4.1 (addI .i64 (nthI s6.2.2.2.2.2.2.1 r4.1) ((nthI v8 r4.1).fSize))))
            ) else (
              some (.go s6.2.2.2.2.2.2.2)
            )
            : Option (Fl (List Int) (Fl ((List (Int × Int)) × (List (Int × Int)) × Int × Int × Bool × List Int × List Int) (Fl (Int × (List (Int × Int)) × (List (Int × Int)) × Int × Int × Bool × List Int × List Int) (Fl ((List (Int × Int)) × (List (Int × Int)) × Int × Int × Bool × List Int × List Int) Bool))))).bind fun f => flC f fun (v9 : List Int) =>
            ((loopF (gLaw19DrrFair.loop10 x0 x1 r4 v9 s6 v5 v8) 0).bind fun f => flC f fun (_v10 : Unit) =>
              some (.go (r5.fShare, r5.fLeft, r5.fMost, r5.fAt, r5.fGranted, (setI s6.2.2.2.2.2.2.1 r4.1 (addI .i64 (nthI s6.2.2.2.2.2.2.1 r4.1) ((nthI v8 r4.1).fSize))), v9))
            )
          )
        )
      )
      : Option (Fl ((List (Int × Int)) × (List (Int × Int)) × Int × Int × Bool × List Int × List Int) (Fl (Int × (List (Int × Int)) × (List (Int × Int)) × Int × Int × Bool × List Int × List Int) (Fl ((List (Int × Int)) × (List (Int × Int)) × Int × Int × Bool × List Int × List Int) Bool)))).bind fun f => flC f fun (v7 : (List (Int × Int)) × (List (Int × Int)) × Int × Int × Bool × List Int × List Int) =>
      some (.go ((addI .i64 s6.1 1), v7.1, v7.2.1, v7.2.2.1, v7.2.2.2.1, v7.2.2.2.2.1, v7.2.2.2.2.2.1, v7.2.2.2.2.2.2))
    )
  ) else (
    some (.out (.go (s6.2.1, s6.2.2.1, s6.2.2.2.1, s6.2.2.2.2.1, s6.2.2.2.2.2.1, s6.2.2.2.2.2.2.1, s6.2.2.2.2.2.2.2)))
  )

noncomputable def gLaw19DrrFair (x0 : Int) (x1 : List Int) (x2 : List Int) : Option Bool :=
  ((gDrrNew (addI .i64 1 (bitsOp .and .i64 x0 63)))).bind fun r1 =>
  optC r1.1 (
    (gLaw19Awake).bind fun r2 =>
    bif (pickB (notB r2) true (neI r1.2 0)) then (
      some false
    ) else (
      ((loopF (gLaw19DrrFair.loop1 x1) ()).bind fun f => flC f fun (_v1 : Unit) =>
        bif (pickB (eqI (minI (lenL x1) 5) 0) true (eqI (lenL x2) 0)) then (
          some true
        ) else (
          need (RepB (minI (lenL x1) 5) (minI (lenL x1) 5) 8) <|
          need (RepB (minI (lenL x1) 5) (minI (lenL x1) 5) 8) <|
          ((loopF (gLaw19DrrFair.loop2 x0 x1 x2) ()).bind fun f => flC f fun (_v2 : Unit) =>
            some true
          )
        )
      )
    )
  ) fun o1 => (
    (gLaw19Awake).bind fun r2 =>
    bif (pickB (notB r2) true (neI r1.2 0)) then (
      some false
    ) else (
      ((loopF (gLaw19DrrFair.loop5 x0 x1) (0, [], o1.fShare, o1.fLeft, o1.fMost, o1.fAt, o1.fGranted)).bind fun f => flC f fun (v5 : List Int × (List (Int × Int)) × (List (Int × Int)) × Int × Int × Bool) =>
        bif (pickB (eqI (minI (lenL x1) 5) 0) true (eqI (lenL x2) 0)) then (
          some true
        ) else (
          need (RepB (minI (lenL x1) 5) (minI (lenL x1) 5) 8) <|
          need (RepB (minI (lenL x1) 5) (minI (lenL x1) 5) 8) <|
          ((loopF (gLaw19DrrFair.loop6 x0 x1 x2 v5) (0, v5.2.1, v5.2.2.1, v5.2.2.2.1, v5.2.2.2.2.1, v5.2.2.2.2.2, (repL (minI (lenL x1) 5) 0), (repL (minI (lenL x1) 5) 0))).bind fun f => flC f fun (_v6 : (List (Int × Int)) × (List (Int × Int)) × Int × Int × Bool × List Int × List Int) =>
            some true
          )
        )
      )
    )
  )
end Go.Proofs
