/- What these functions compute, as plain functions. No condition. -/
import Derived.Test.YtdcfbacpklklcaaTs
import Derived.Test.YtdcfbacpklklcaaLdD
namespace Go.Proofs
open Go.Ab
noncomputable def gLaw23Needs.loop1 (x0 : List Int) (s1 : Int × Int × List Int) : Option (Fl (Int × Int × List Int) (Fl (List Int) (List Int))) :=
  bif (pickB (ltI s1.1 (lenL x0)) (ltI s1.1 3) false) then (
    need (InB s1.1 (lenL x0)) <|
    need (AppB (lenL s1.2.2) 1 8) <|
    some (.go ((addI .i64 s1.1 1), (addI .i64 s1.2.1 (bitsOp .and .i64 (nthI x0 s1.1) 63)), (appL s1.2.2 [(addI .i64 s1.2.1 (bitsOp .and .i64 (nthI x0 s1.1) 63))])))
  ) else (
    some (.out (.go s1.2.2))
  )

noncomputable def gLaw23Needs (x0 : List Int) : Option (List Int) :=
  ((loopF (gLaw23Needs.loop1 x0) (0, 0, [])).bind fun f => flC f fun (v1 : List Int) =>
    bif (eqI (lenL v1) 0) then (
      some [5]
    ) else (
      some v1
    )
  )

noncomputable def gLaw23Awake : Option Bool :=
  ((gLadderNew (LadderConfig.mk 2 3 1) 1 [10, 50])).bind fun r1 =>
  optC r1.1 (
    bif (pickB (eqI r1.2 0) false false) then (
      none
    ) else (
      some false
    )
  ) fun o1 => (
    need (Under (pickB (eqI r1.2 0) true false) true ((gLadderLadderAt o1).isSome = true)) <|
    bif (pickB (pickB (eqI r1.2 0) true false) (eqI ((gLadderLadderAt o1).getD dflt) 1) false) then (
      ((gLadderLadderTick o1 20)).bind fun r2 =>
      bif (notB r2.1) then (
        ((gLadderLadderTick r2.2 20)).bind fun r3 =>
        need (Under r3.1 true ((gLadderLadderAt r3.2).isSome = true)) <|
        bif (pickB r3.1 (eqI ((gLadderLadderAt r3.2).getD dflt) 0) false) then (
          ((gLadderLadderTick r3.2 55)).bind fun r4 =>
          bif (notB r4.1) then (
            ((gLadderLadderTick r4.2 55)).bind fun r5 =>
            bif (notB r5.1) then (
              ((gLadderLadderTick r5.2 55)).bind fun r6 =>
              need (Under r6.1 true ((gLadderLadderAt r6.2).isSome = true)) <|
              some (pickB r6.1 (eqI ((gLadderLadderAt r6.2).getD dflt) 1) false)
            ) else (
              some false
            )
          ) else (
            some false
          )
        ) else (
          some false
        )
      ) else (
        some false
      )
    ) else (
      some false
    )
  )
end Go.Proofs
