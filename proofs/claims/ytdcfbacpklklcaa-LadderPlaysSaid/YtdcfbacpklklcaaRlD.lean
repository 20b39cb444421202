/- What these functions compute, as plain functions. No condition. -/
import Derived.Test.YtdcfbacpklklcaaTs
namespace Go.Proofs
open Go.Ab
noncomputable def gRef23Bad (x0 : Antiphonref23Ladder) (x1 : Int) : Option Bool :=
  need (Under (ltI 0 x0.fAt) true (InB x0.fAt (lenL x0.fNeeds))) <|
  some (pickB (ltI 0 x0.fAt) (ltI x1 (nthI x0.fNeeds x0.fAt)) false)

noncomputable def gRef23Good (x0 : Antiphonref23Ladder) (x1 : Int) : Option Bool :=
  ((gRef23Bad x0 x1)).bind fun r1 =>
  bif (pickB r1 true (leI x0.fMost x0.fAt)) then (
    some false
  ) else (
    need (InB (addI .i64 x0.fAt 1) (lenL x0.fNeeds)) <|
    need (NonZ 10) <|
    some (leI (addI .i64 (nthI x0.fNeeds (addI .i64 x0.fAt 1)) (mulI .i64 (quoI .i64 (nthI x0.fNeeds (addI .i64 x0.fAt 1)) 10) x0.fSpare)) x1)
  )

noncomputable def gRef23Tail.loop1 (x0 : Antiphonref23Ladder) (x1 : Bool) (s1 : Int × Int) : Option (Fl (Int × Int) (Fl Int Int)) :=
  bif (leI 0 s1.1) then (
    need (Under x1 true (InB s1.1 (lenL x0.fRates))) <|
    need (Under x1 true ((gRef23Good x0 (nthI x0.fRates s1.1)).isSome = true)) <|
    need (Under (notB x1) true (Under (pickB x1 (notB ((gRef23Good x0 (nthI x0.fRates s1.1)).getD dflt)) false) false (InB s1.1 (lenL x0.fRates)))) <|
    need (Under (notB x1) true (Under (pickB x1 (notB ((gRef23Good x0 (nthI x0.fRates s1.1)).getD dflt)) false) false ((gRef23Bad x0 (nthI x0.fRates s1.1)).isSome = true))) <|
    bif (pickB (pickB x1 (notB ((gRef23Good x0 (nthI x0.fRates s1.1)).getD dflt)) false) true (pickB (notB x1) (notB ((gRef23Bad x0 (nthI x0.fRates s1.1)).getD dflt)) false)) then (
      some (.out (.out s1.2))
    ) else (
      some (.go ((subI .i64 s1.1 1), (addI .i64 s1.2 1)))
    )
  ) else (
    some (.out (.go s1.2))
  )

noncomputable def gRef23Tail (x0 : Antiphonref23Ladder) (x1 : Bool) : Option Int :=
  ((loopF (gRef23Tail.loop1 x0 x1) ((subI .i64 (lenL x0.fRates) 1), 0)).bind fun f => flC f fun (v1 : Int) =>
    some v1
  )

noncomputable def gRef23Step (x0 : Antiphonref23Ladder) (x1 : Int) : Option Antiphonref23Ladder :=
  some (Antiphonref23Ladder.mk x0.fDown x0.fUp x0.fSpare x0.fNeeds x1 x0.fMost (addI .i64 x0.fMoves 1) [])

noncomputable def gRef23Tick (x0 : Antiphonref23Ladder) (x1 : Int) : Option (Antiphonref23Ladder × Bool) :=
  need (AppB 0 (lenL x0.fRates) 8) <|
  need (AppB (lenL x0.fRates) 1 8) <|
  ((gRef23Tail (Antiphonref23Ladder.mk x0.fDown x0.fUp x0.fSpare x0.fNeeds x0.fAt x0.fMost x0.fMoves (appL (appL [] x0.fRates) [x1])) false)).bind fun r1 =>
  bif (leI x0.fDown r1) then (
    ((gRef23Step (Antiphonref23Ladder.mk x0.fDown x0.fUp x0.fSpare x0.fNeeds x0.fAt x0.fMost x0.fMoves (appL (appL [] x0.fRates) [x1])) (subI .i64 x0.fAt 1))).bind fun r2 =>
    some (r2, true)
  ) else (
    ((gRef23Tail (Antiphonref23Ladder.mk x0.fDown x0.fUp x0.fSpare x0.fNeeds x0.fAt x0.fMost x0.fMoves (appL (appL [] x0.fRates) [x1])) true)).bind fun r3 =>
    bif (leI x0.fUp r3) then (
      ((gRef23Step (Antiphonref23Ladder.mk x0.fDown x0.fUp x0.fSpare x0.fNeeds x0.fAt x0.fMost x0.fMoves (appL (appL [] x0.fRates) [x1])) (addI .i64 x0.fAt 1))).bind fun r4 =>
      some (r4, true)
    ) else (
      some ((Antiphonref23Ladder.mk x0.fDown x0.fUp x0.fSpare x0.fNeeds x0.fAt x0.fMost x0.fMoves (appL (appL [] x0.fRates) [x1])), false)
    )
  )
end Go.Proofs
