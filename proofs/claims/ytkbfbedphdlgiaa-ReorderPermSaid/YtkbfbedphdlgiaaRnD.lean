/- What these functions compute, as plain functions. No condition. -/
import Derived.Test.YtkbfbedphdlgiaaTs
import Derived.Test.YtkbfbedphdlgiaaRoD
import Derived.Test.YtkbfbedphdlgiaaRrD
import Derived.Test.YtkbfbedphdlgiaaWrD
namespace Go.Proofs
open Go.Ab
noncomputable def gLaw09ReorderNone.loop1 (x0 : Int) (_s1 : Unit) : Option (Fl Unit (Fl Unit Bool)) :=
  bif (ltI 0 (addI .i64 (bitsOp .and .i64 x0 31) 1)) then (
    none
  ) else (
    some (.out (.go ()))
  )

noncomputable def gLaw09ReorderNone.loop2 (x0 : Int) (s2 : Int × (List (Int × Antiphonref09Thing)) × ReorderConfig × Bool × Int × Int) : Option (Fl (Int × (List (Int × Antiphonref09Thing)) × ReorderConfig × Bool × Int × Int) (Fl ((List (Int × Antiphonref09Thing)) × ReorderConfig × Bool × Int × Int) Bool)) :=
  bif (ltI s2.1 (addI .i64 (bitsOp .and .i64 x0 31) 1)) then (
    ((gReorderBufferPut (ReorderBuffer.mk s2.2.2.1 s2.2.2.2.1 s2.2.2.2.2.1 s2.2.1 s2.2.2.2.2.2) (Antiphonref09Thing.mk s2.1 ⟨#[]⟩ 0))).bind fun r3 =>
    need (Under (pickB (neI r3.2.1 0) true (neI (lenL r3.1) 1)) false ((gReorderBufferLen r3.2.2).isSome = true)) <|
    bif (pickB (pickB (neI r3.2.1 0) true (neI (lenL r3.1) 1)) true (neI ((gReorderBufferLen r3.2.2).getD dflt) 0)) then (
      some (.out (.out false))
    ) else (
      some (.go ((addI .i64 s2.1 1), r3.2.2.fOf, r3.2.2.fConfig, r3.2.2.fBegun, r3.2.2.fNext, r3.2.2.fLost))
    )
  ) else (
    some (.out (.go (s2.2.1, s2.2.2.1, s2.2.2.2.1, s2.2.2.2.2.1, s2.2.2.2.2.2)))
  )

noncomputable def gLaw09ReorderNone.loop3 (x0 : Int) (s3 : Int × (List (Int × Antiphonref09Thing)) × ReorderConfig × Bool × Int × Int) : Option (Fl (Int × (List (Int × Antiphonref09Thing)) × ReorderConfig × Bool × Int × Int) (Fl ((List (Int × Antiphonref09Thing)) × ReorderConfig × Bool × Int × Int) Bool)) :=
  bif (ltI 0 s3.1) then (
    ((gReorderBufferPut (ReorderBuffer.mk s3.2.2.1 s3.2.2.2.1 s3.2.2.2.2.1 s3.2.1 s3.2.2.2.2.2) (Antiphonref09Thing.mk (addI .i64 (addI .i64 (bitsOp .and .i64 x0 31) 1) s3.1) ⟨#[]⟩ 0))).bind fun r6 =>
    bif (neI (lenL r6.1) 0) then (
      some (.out (.out false))
    ) else (
      some (.go ((subI .i64 s3.1 1), r6.2.2.fOf, r6.2.2.fConfig, r6.2.2.fBegun, r6.2.2.fNext, r6.2.2.fLost))
    )
  ) else (
    some (.out (.go (s3.2.1, s3.2.2.1, s3.2.2.2.1, s3.2.2.2.2.1, s3.2.2.2.2.2)))
  )

noncomputable def gLaw09ReorderNone (x0 : Int) (x1 : Int) : Option Bool :=
  (gLaw09Awake).bind fun r1 =>
  bif (notB r1) then (
    some false
  ) else (
    ((gReorderNew (ReorderConfig.mk 50 9))).bind fun r2 =>
    optC r2.1 (
      bif (neI r2.2 0) then (
        some false
      ) else (
        ((loopF (gLaw09ReorderNone.loop1 x0) ()).bind fun f => flC f fun (_v1 : Unit) =>
          none
        )
      )
    ) fun o1 => (
      bif (neI r2.2 0) then (
        some false
      ) else (
        ((loopF (gLaw09ReorderNone.loop2 x0) (0, o1.fOf, o1.fConfig, o1.fBegun, o1.fNext, o1.fLost)).bind fun f => flC f fun (v2 : (List (Int × Antiphonref09Thing)) × ReorderConfig × Bool × Int × Int) =>
          ((gReorderBufferPut (ReorderBuffer.mk v2.2.1 v2.2.2.1 v2.2.2.2.1 v2.1 v2.2.2.2.2) (Antiphonref09Thing.mk (addI .i64 (addI .i64 (bitsOp .and .i64 x0 31) 1) (addI .i64 1 (bitsOp .and .i64 x1 15))) ⟨#[]⟩ 0))).bind fun r4 =>
          ((gReorderBufferMissing r4.2.2 99)).bind fun r5 =>
          need (Under (pickB (neI (lenL r4.1) 0) true (neI (lenL r5) (addI .i64 1 (bitsOp .and .i64 x1 15)))) false (InB 0 (lenL r5))) <|
          need (Under (pickB (pickB (neI (lenL r4.1) 0) true (neI (lenL r5) (addI .i64 1 (bitsOp .and .i64 x1 15)))) true (neI (nthI r5 0) (addI .i64 (bitsOp .and .i64 x0 31) 1))) false (InB (subI .i64 (addI .i64 1 (bitsOp .and .i64 x1 15)) 1) (lenL r5))) <|
          bif (pickB (pickB (pickB (neI (lenL r4.1) 0) true (neI (lenL r5) (addI .i64 1 (bitsOp .and .i64 x1 15)))) true (neI (nthI r5 0) (addI .i64 (bitsOp .and .i64 x0 31) 1))) true (neI (nthI r5 (subI .i64 (addI .i64 1 (bitsOp .and .i64 x1 15)) 1)) (subI .i64 (addI .i64 (addI .i64 (bitsOp .and .i64 x0 31) 1) (addI .i64 1 (bitsOp .and .i64 x1 15))) 1))) then (
            some false
          ) else (
            ((loopF (gLaw09ReorderNone.loop3 x0) ((subI .i64 (addI .i64 1 (bitsOp .and .i64 x1 15)) 1), r4.2.2.fOf, r4.2.2.fConfig, r4.2.2.fBegun, r4.2.2.fNext, r4.2.2.fLost)).bind fun f => flC f fun (v3 : (List (Int × Antiphonref09Thing)) × ReorderConfig × Bool × Int × Int) =>
              ((gReorderBufferPut (ReorderBuffer.mk v3.2.1 v3.2.2.1 v3.2.2.2.1 v3.1 v3.2.2.2.2) (Antiphonref09Thing.mk (addI .i64 (bitsOp .and .i64 x0 31) 1) ⟨#[]⟩ 0))).bind fun r7 =>
              need (Under (eqI (lenL r7.1) (addI .i64 (addI .i64 1 (bitsOp .and .i64 x1 15)) 1)) true ((gReorderBufferLen r7.2.2).isSome = true)) <|
              need (Under (pickB (eqI (lenL r7.1) (addI .i64 (addI .i64 1 (bitsOp .and .i64 x1 15)) 1)) (eqI ((gReorderBufferLen r7.2.2).getD dflt) 0) false) true ((gReorderBufferLost r7.2.2).isSome = true)) <|
              some (pickB (pickB (eqI (lenL r7.1) (addI .i64 (addI .i64 1 (bitsOp .and .i64 x1 15)) 1)) (eqI ((gReorderBufferLen r7.2.2).getD dflt) 0) false) (eqI ((gReorderBufferLost r7.2.2).getD dflt) 0) false)
            )
          )
        )
      )
    )
  )
end Go.Proofs
