/- What these functions compute, as plain functions. No condition. -/
import Derived.Test.YtkbfbedphdlgiaaTs
import Derived.Test.YtkbfbedphdlgiaaRrD
import Derived.Test.YtkbfbedphdlgiaaRoD
namespace Go.Proofs
open Go.Ab
noncomputable def gLaw09Awake : Option Bool :=
  ((gReorderNew (ReorderConfig.mk 4 5))).bind fun r1 =>
  optC r1.1 (
    bif (pickB (neI r1.2 0) true true) then (
      some false
    ) else (
      none
    )
  ) fun o1 => (
    bif (pickB (neI r1.2 0) true false) then (
      some false
    ) else (
      ((gReorderBufferPut o1 (Antiphonref09Thing.mk 5 ⟨#[]⟩ 0))).bind fun r2 =>
      ((gReorderBufferPut r2.2.2 (Antiphonref09Thing.mk 7 ⟨#[]⟩ 0))).bind fun r3 =>
      ((gReorderBufferMissing r3.2.2 9)).bind fun r4 =>
      ((gReorderBufferPut r3.2.2 (Antiphonref09Thing.mk 6 ⟨#[]⟩ 0))).bind fun r5 =>
      need (Under (pickB (pickB (eqI (lenL r2.1) 1) (eqI (lenL r3.1) 0) false) (eqI (lenL r5.1) 2) false) true (InB 1 (lenL r5.1))) <|
      need (Under (pickB (pickB (pickB (pickB (eqI (lenL r2.1) 1) (eqI (lenL r3.1) 0) false) (eqI (lenL r5.1) 2) false) (eqI ((nthI r5.1 1).fAt) 7) false) (eqI (lenL r4) 1) false) true (InB 0 (lenL r4))) <|
      some (pickB (pickB (pickB (pickB (pickB (eqI (lenL r2.1) 1) (eqI (lenL r3.1) 0) false) (eqI (lenL r5.1) 2) false) (eqI ((nthI r5.1 1).fAt) 7) false) (eqI (lenL r4) 1) false) (eqI (nthI r4 0) 6) false)
    )
  )
end Go.Proofs
