/- What these functions compute, as plain functions. No condition. -/
import Derived.Test.YtefhipepfihloaaTs
import Derived.Test.YtefhipepfihloaaDcD
import Derived.Test.YtefhipepfihloaaDaD
namespace Go.Proofs
open Go.Ab
noncomputable def gLaw19DrrMay (x0 : Int) (x1 : Int) : Option Bool :=
  ((gDrrNew x0)).bind fun r1 =>
  optC r1.1 (
    (gLaw19Awake).bind fun r2 =>
    bif (pickB (pickB (notB r2) true (neB (eqI r1.2 0) (pickB (leqI 1 x0) (leqI x0 16777216) false))) true (neB false (pickB (leqI 1 x0) (leqI x0 16777216) false))) then (
      some false
    ) else (
      bif (notB (pickB (leqI 1 x0) (leqI x0 16777216) false)) then (
        some (eqI r1.2 5)
      ) else (
        none
      )
    )
  ) fun o1 => (
    (gLaw19Awake).bind fun r2 =>
    bif (pickB (pickB (notB r2) true (neB (eqI r1.2 0) (pickB (leqI 1 x0) (leqI x0 16777216) false))) true (neB true (pickB (leqI 1 x0) (leqI x0 16777216) false))) then (
      some false
    ) else (
      bif (notB (pickB (leqI 1 x0) (leqI x0 16777216) false)) then (
        some (eqI r1.2 5)
      ) else (
        ((gDrrSchedAdd o1 5 x1)).bind fun r3 =>
        bif (pickB (ltI x1 x0) true (ltI 16777216 x1)) then (
          bif (eqI r3.1 5) then (
            ((gDrrSchedRemove r3.2 5)).bind fun r4 =>
            some (eqI r4.1 12)
          ) else (
            some false
          )
        ) else (
          bif (eqI r3.1 0) then (
            ((gDrrSchedAdd r3.2 5 x1)).bind fun r4 =>
            bif (eqI r4.1 10) then (
              ((gDrrSchedRemove r4.2 5)).bind fun r5 =>
              need (Under (eqI r5.1 0) true ((gDrrSchedLeft r5.2 5).isSome = true)) <|
              some (pickB (eqI r5.1 0) (eqI ((gDrrSchedLeft r5.2 5).getD dflt) 0) false)
            ) else (
              some false
            )
          ) else (
            some false
          )
        )
      )
    )
  )
end Go.Proofs
