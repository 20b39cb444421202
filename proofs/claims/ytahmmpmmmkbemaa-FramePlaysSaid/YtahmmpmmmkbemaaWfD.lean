/- What these functions compute, as plain functions. No condition. -/
import Derived.Test.YtahmmpmmmkbemaaTs
import Derived.Test.YtahmmpmmmkbemaaFrD
namespace Go.Proofs
open Go.Ab
noncomputable def gLaw10Awake : Option Bool :=
  ((gFrameNew (FrameConfig.mk true 100 5 9))).bind fun r1 =>
  optC r1.1 (
    bif (pickB (neI r1.2 0) true true) then (
      some false
    ) else (
      none
    )
  ) fun o1 => (
    bif (pickB (neI r1.2 0) true false) then (
      some false
    ) else (
      ((gFrameMakerPut o1 (Antiphonref10Unit.mk 5 0 false true true ⟨#[120]⟩ 0))).bind fun r2 =>
      ((gFrameMakerPut r2.2.2 (Antiphonref10Unit.mk 6 0 true false false ⟨#[121]⟩ 0))).bind fun r3 =>
      need (Under (pickB (pickB (notB r2.2.1) r3.2.1 false) (eqI (lenL r3.1.fUnits) 2) false) true ((gFrameFrameKey r3.1).isSome = true)) <|
      need (Under (pickB (pickB (pickB (notB r2.2.1) r3.2.1 false) (eqI (lenL r3.1.fUnits) 2) false) ((gFrameFrameKey r3.1).getD dflt) false) true ((gFrameFrameSize r3.1).isSome = true)) <|
      need (Under (pickB (pickB (pickB (pickB (notB r2.2.1) r3.2.1 false) (eqI (lenL r3.1.fUnits) 2) false) ((gFrameFrameKey r3.1).getD dflt) false) (eqI ((gFrameFrameSize r3.1).getD dflt) 2) false) true ((gFrameMakerOpen r3.2.2).isSome = true)) <|
      some (pickB (pickB (pickB (pickB (pickB (notB r2.2.1) r3.2.1 false) (eqI (lenL r3.1.fUnits) 2) false) ((gFrameFrameKey r3.1).getD dflt) false) (eqI ((gFrameFrameSize r3.1).getD dflt) 2) false) (eqI ((gFrameMakerOpen r3.2.2).getD dflt) 0) false)
    )
  )
end Go.Proofs
