/- What these functions compute, as plain functions. No condition. -/
import Derived.Test.YtkbfbedphdlgiaaTs
import Derived.Test.YtkbfbedphdlgiaaRoD
import Derived.Test.YtkbfbedphdlgiaaRrD
import Derived.Test.YtkbfbedphdlgiaaCuD
import Derived.Test.YtkbfbedphdlgiaaRpD
namespace Go.Proofs
open Go.Ab
noncomputable def gLaw09Same.loop1 (x0 : List Antiphonref09Thing) (x1 : List Antiphonref09Thing) (s1 : Int) : Option (Fl Int (Fl Unit Bool)) :=
  bif (ltI s1 (lenL x1)) then (
    need (InB s1 (lenL x0)) <|
    need (InB s1 (lenL x1)) <|
    bif (notB (pickB (eqI ((nthI x0 s1).fAt) ((nthI x1 s1).fAt)) (pickB (eqS ((nthI x0 s1).fText) ((nthI x1 s1).fText)) (eqI ((nthI x0 s1).fTick) ((nthI x1 s1).fTick)) false) false)) then (
      some (.out (.out false))
    ) else (
      some (.go (addI .i64 s1 1))
    )
  ) else (
    some (.out (.go ()))
  )

noncomputable def gLaw09Same (x0 : List Antiphonref09Thing) (x1 : List Antiphonref09Thing) : Option Bool :=
  bif (neI (lenL x0) (lenL x1)) then (
    some false
  ) else (
    ((loopF (gLaw09Same.loop1 x0 x1) 0).bind fun f => flC f fun (_v1 : Unit) =>
      some true
    )
  )

noncomputable def gLaw09Begin (x0 : Int) (x1 : Int) : Option (Antiphonlaw09State × Bool) :=
  need (NonZ 12) <|
  ((gReorderNew (ReorderConfig.mk (addI .i64 1 (remI (bitsOp .and .i64 x0 255) 12)) (bitsOp .and .i64 x1 15)))).bind fun r1 =>
  optC r1.1 (
    none
  ) fun o1 => (
    some ((Antiphonlaw09State.mk o1 (Antiphonref09Buffer.mk (addI .i64 1 (remI (bitsOp .and .i64 x0 255) 12)) (bitsOp .and .i64 x1 15) false 0 [] 0) 0), (pickB (eqI r1.2 0) true false))
  )

noncomputable def gLaw09Does.loop2  (s2 : List Antiphonref09Thing × Antiphonref09Buffer) : Option (Fl (List Antiphonref09Thing × Antiphonref09Buffer) (Fl (List Antiphonref09Thing × Antiphonref09Buffer) (Antiphonlaw09State × List Antiphonref09Thing × Bool))) :=
  bif (ltI 0 (lenL s2.2.fL)) then (
    ((gRef09Skip s2.2)).bind fun r8 =>
    need (AppB (lenL s2.1) (lenL r8.2.1) 32) <|
    some (.go ((appL s2.1 r8.2.1), r8.1))
  ) else (
    some (.out (.go (s2.1, s2.2)))
  )

noncomputable def gLaw09Does (x0 : Antiphonlaw09State) (x1 : Antiphonlaw09Act) : Option (Antiphonlaw09State × List Antiphonref09Thing × Bool) :=
  bif (eqI x1.fKind 1) then (
    ((
      bif (notB x0.fX.fBegun) then (
        some (.go (addI .i64 1000 (bitsOp .and .i64 x1.fBy 31)))
      ) else (
        some (.go (maxI (subI .i64 (addI .i64 x0.fX.fNext (bitsOp .and .i64 x1.fBy 31)) 8) 0))
      )
      : Option (Fl Int (Antiphonlaw09State × List Antiphonref09Thing × Bool))).bind fun f => flC f fun (v1 : Int) =>
      ((gLaw01Cut x1.fS 10)).bind fun r1 =>
      ((gReorderBufferPut x0.fB (Antiphonref09Thing.mk v1 r1 x0.fNow))).bind fun r2 =>
      ((gRef09Put x0.fX (Antiphonref09Thing.mk v1 r1 x0.fNow))).bind fun r3 =>
      need (Under (eqI r2.2.1 r3.2.2) true ((gLaw09Same r2.1 r3.2.1).isSome = true)) <|
      some ((Antiphonlaw09State.mk r2.2.2 r3.1 x0.fNow), r3.2.1, (pickB (eqI r2.2.1 r3.2.2) ((gLaw09Same r2.1 r3.2.1).getD dflt) false))
    )
  ) else (
    bif (eqI x1.fKind 2) then (
      ((gReorderBufferTick x0.fB (addI .i64 x0.fNow (bitsOp .and .i64 x1.fBy 31)))).bind fun r4 =>
      ((gRef09Tick x0.fX (addI .i64 x0.fNow (bitsOp .and .i64 x1.fBy 31)))).bind fun r5 =>
      ((gLaw09Same r4.1 r5.2)).bind fun r6 =>
      some ((Antiphonlaw09State.mk r4.2 r5.1 (addI .i64 x0.fNow (bitsOp .and .i64 x1.fBy 31))), r5.2, r6)
    ) else (
      bif (eqI x1.fKind 3) then (
        ((gReorderBufferFlush x0.fB)).bind fun r7 =>
        ((loopF gLaw09Does.loop2 ([], x0.fX)).bind fun f => flC f fun (v2 : List Antiphonref09Thing × Antiphonref09Buffer) =>
          ((gLaw09Same r7.1 v2.1)).bind fun r9 =>
          some ((Antiphonlaw09State.mk r7.2 v2.2 x0.fNow), v2.1, r9)
        )
      ) else (
        some (x0, [], true)
      )
    )
  )
end Go.Proofs
