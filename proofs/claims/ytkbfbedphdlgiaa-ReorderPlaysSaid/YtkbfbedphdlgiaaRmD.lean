/- What these functions compute, as plain functions. No condition. -/
import Derived.Test.YtkbfbedphdlgiaaTs
import Derived.Test.YtkbfbedphdlgiaaWrD
import Derived.Test.YtkbfbedphdlgiaaRoD
namespace Go.Proofs
open Go.Ab
noncomputable def gLaw09ReorderMay (x0 : Int) (x1 : Int) : Option Bool :=
  ((gReorderNew (ReorderConfig.mk x0 x1))).bind fun r1 =>
  optC r1.1 (
    (gLaw09Awake).bind fun r2 =>
    some (pickB (pickB (pickB r2 (eqB (eqI r1.2 0) (pickB (pickB (pickB (leqI 1 x0) (leqI x0 1024) false) (leqI 0 x1) false) (leqI x1 1099511627776) false)) false) (eqB false (pickB (pickB (pickB (leqI 1 x0) (leqI x0 1024) false) (leqI 0 x1) false) (leqI x1 1099511627776) false)) false) (pickB (pickB (pickB (pickB (leqI 1 x0) (leqI x0 1024) false) (leqI 0 x1) false) (leqI x1 1099511627776) false) true (eqI r1.2 5)) false)
  ) fun _o1 => (
    (gLaw09Awake).bind fun r2 =>
    some (pickB (pickB (pickB r2 (eqB (eqI r1.2 0) (pickB (pickB (pickB (leqI 1 x0) (leqI x0 1024) false) (leqI 0 x1) false) (leqI x1 1099511627776) false)) false) (eqB true (pickB (pickB (pickB (leqI 1 x0) (leqI x0 1024) false) (leqI 0 x1) false) (leqI x1 1099511627776) false)) false) (pickB (pickB (pickB (pickB (leqI 1 x0) (leqI x0 1024) false) (leqI 0 x1) false) (leqI x1 1099511627776) false) true (eqI r1.2 5)) false)
  )
end Go.Proofs
