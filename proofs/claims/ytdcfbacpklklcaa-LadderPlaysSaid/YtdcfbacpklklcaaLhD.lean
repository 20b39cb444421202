/- What these functions compute, as plain functions. No condition. -/
import Derived.Test.YtdcfbacpklklcaaTs
import Derived.Test.YtdcfbacpklklcaaLdD
import Derived.Test.YtdcfbacpklklcaaWlD
namespace Go.Proofs
open Go.Ab
noncomputable def gLaw23LadderHolds.loop1 (x3 : List Int) (_s1 : Unit) : Option (Fl Unit (Fl Unit Bool)) :=
  bif (pickB (ltI 0 (lenL x3)) (ltI 0 200) false) then (
    none
  ) else (
    some (.out (.go ()))
  )

noncomputable def gLaw23LadderHolds.loop3  (_s3 : Unit) : Option (Fl Unit (Fl Unit Bool)) :=
  bif (ltI 0 50) then (
    none
  ) else (
    some (.out (.go ()))
  )

noncomputable def gLaw23LadderHolds.loop4 (x0 : Int) (x1 : Int) (x3 : List Int) (s4 : Int × Int × LadderLadder) : Option (Fl (Int × Int × LadderLadder) (Fl LadderLadder Bool)) :=
  bif (pickB (ltI s4.1 (lenL x3)) (ltI s4.1 200) false) then (
    ((
      ((gLadderLadderAt s4.2.2)).bind fun r4 =>
      need (InB s4.1 (lenL x3)) <|
      ((gLadderLadderTick s4.2.2 (nthI x3 s4.1))).bind fun r5 =>
      bif (notB r5.1) then (
        some (.go (r5.2, (addI .i64 s4.2.1 1)))
      ) else (
        ((gLadderLadderAt r5.2)).bind fun r6 =>
        need (Under (pickB (ltI r6 r4) (ltI (addI .i64 s4.2.1 1) (addI .i64 1 (bitsOp .and .i64 x0 7))) false) false ((gLadderLadderAt r5.2).isSome = true)) <|
        bif (pickB (pickB (ltI r6 r4) (ltI (addI .i64 s4.2.1 1) (addI .i64 1 (bitsOp .and .i64 x0 7))) false) true (pickB (ltI r4 ((gLadderLadderAt r5.2).getD dflt)) (ltI (addI .i64 s4.2.1 1) (addI .i64 1 (bitsOp .and .i64 x1 7))) false)) then (
          some (.out (.out (.out false)))
        ) else (
          some (.go (r5.2, 0))
        )
      )
      : Option (Fl (LadderLadder × Int) (Fl (Int × Int × LadderLadder) (Fl LadderLadder Bool)))).bind fun f => flC f fun (v5 : LadderLadder × Int) =>
      some (.go ((addI .i64 s4.1 1), v5.2, v5.1))
    )
  ) else (
    some (.out (.go s4.2.2))
  )

noncomputable def gLaw23LadderHolds.loop6 (r2 : List Int) (s6 : Int × LadderLadder) : Option (Fl (Int × LadderLadder) (Fl LadderLadder Bool)) :=
  bif (ltI s6.1 50) then (
    ((gLadderLadderAt s6.2)).bind fun r7 =>
    need (InB r7 (lenL r2)) <|
    ((gLadderLadderTick s6.2 (nthI r2 r7))).bind fun r8 =>
    need (Under (leI (lenL r2) (addI .i64 r7 1)) false (Under r8.1 true (InB (addI .i64 r7 1) (lenL r2)))) <|
    need (Under (leI (lenL r2) (addI .i64 r7 1)) false (Under r8.1 true (InB (addI .i64 r7 1) (lenL r2)))) <|
    need (Under (leI (lenL r2) (addI .i64 r7 1)) false (Under r8.1 true (NonZ 10))) <|
    need (Under (leI (lenL r2) (addI .i64 r7 1)) false (Under r8.1 true (InB r7 (lenL r2)))) <|
    bif (pickB r8.1 (pickB (leI (lenL r2) (addI .i64 r7 1)) true (ltI (nthI r2 r7) (addI .i64 (nthI r2 (addI .i64 r7 1)) (mulI .i64 (quoI .i64 (nthI r2 (addI .i64 r7 1)) 10) 2)))) false) then (
      some (.out (.out false))
    ) else (
      some (.go ((addI .i64 s6.1 1), r8.2))
    )
  ) else (
    some (.out (.go s6.2))
  )

noncomputable def gLaw23LadderHolds (x0 : Int) (x1 : Int) (x2 : List Int) (x3 : List Int) : Option Bool :=
  (gLaw23Awake).bind fun r1 =>
  bif (notB r1) then (
    some false
  ) else (
    ((gLaw23Needs x2)).bind fun r2 =>
    ((gLadderNew (LadderConfig.mk (addI .i64 1 (bitsOp .and .i64 x0 7)) (addI .i64 1 (bitsOp .and .i64 x1 7)) 2) 2 r2)).bind fun r3 =>
    optC r3.1 (
      bif (neI r3.2 0) then (
        some false
      ) else (
        ((loopF (gLaw23LadderHolds.loop1 x3) ()).bind fun f => flC f fun (_v1 : Unit) =>
          ((loopF gLaw23LadderHolds.loop3 ()).bind fun f => flC f fun (_v3 : Unit) =>
            some true
          )
        )
      )
    ) fun o1 => (
      bif (neI r3.2 0) then (
        some false
      ) else (
        ((loopF (gLaw23LadderHolds.loop4 x0 x1 x3) (0, 0, o1)).bind fun f => flC f fun (v4 : LadderLadder) =>
          ((loopF (gLaw23LadderHolds.loop6 r2) (0, v4)).bind fun f => flC f fun (_v6 : LadderLadder) =>
            some true
          )
        )
      )
    )
  )
end Go.Proofs
