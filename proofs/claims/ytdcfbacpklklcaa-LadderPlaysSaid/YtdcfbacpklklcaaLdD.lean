/- What these functions compute, as plain functions. No condition. -/
import Derived.Test.YtdcfbacpklklcaaTs
namespace Go.Proofs
open Go.Ab
noncomputable def gLadderConfigCheck (x0 : LadderConfig) : Option Int :=
  bif (pickB (pickB (pickB (pickB (pickB (ltI x0.fDown 1) true (ltI 1048576 x0.fDown)) true (ltI x0.fUp 1)) true (ltI 1048576 x0.fUp)) true (ltI x0.fSpare 0)) true (ltI 100 x0.fSpare)) then (
    some 5
  ) else (
    some 0
  )

noncomputable def gCmpIsNaNInt (x0 : Int) : Option Bool :=
  some (neI x0 x0)

noncomputable def gCmpLessInt (x0 : Int) (x1 : Int) : Option Bool :=
  ((gCmpIsNaNInt x0)).bind fun r1 =>
  need (Under r1 true ((gCmpIsNaNInt x1).isSome = true)) <|
  some (pickB (pickB r1 (notB ((gCmpIsNaNInt x1).getD dflt)) false) true (ltI x0 x1))

noncomputable def gSlicesIsSortedIntInt.loop1 (x0 : List Int) (s1 : Int) : Option (Fl Int (Fl Unit Bool)) :=
  bif (ltI 0 s1) then (
    need (InB s1 (lenL x0)) <|
    need (InB (subI .i64 s1 1) (lenL x0)) <|
    ((gCmpLessInt (nthI x0 s1) (nthI x0 (subI .i64 s1 1)))).bind fun r1 =>
    bif r1 then (
      some (.out (.out false))
    ) else (
      some (.go (subI .i64 s1 1))
    )
  ) else (
    some (.out (.go ()))
  )

noncomputable def gSlicesIsSortedIntInt (x0 : List Int) : Option Bool :=
  ((loopF (gSlicesIsSortedIntInt.loop1 x0) (subI .i64 (lenL x0) 1)).bind fun f => flC f fun (_v1 : Unit) =>
    some true
  )

noncomputable def gLadderLadderStep (x0 : LadderLadder) (x1 : Int) : Option LadderLadder :=
  some (LadderLadder.mk x0.fConfig x0.fNeeds x1 x0.fMost 0 0 (addI .i64 x0.fMoves 1))

noncomputable def gLadderLadderWant (x0 : LadderLadder) (x1 : Int) : Option (Bool × LadderLadder) :=
  bif (leI x0.fAt (minI (maxI x1 0) (subI .i64 (lenL x0.fNeeds) 1))) then (
    some (false, (LadderLadder.mk x0.fConfig x0.fNeeds x0.fAt (minI (maxI x1 0) (subI .i64 (lenL x0.fNeeds) 1)) x0.fBad x0.fGood x0.fMoves))
  ) else (
    ((gLadderLadderStep (LadderLadder.mk x0.fConfig x0.fNeeds x0.fAt (minI (maxI x1 0) (subI .i64 (lenL x0.fNeeds) 1)) x0.fBad x0.fGood x0.fMoves) (minI (maxI x1 0) (subI .i64 (lenL x0.fNeeds) 1)))).bind fun r1 =>
    some (true, r1)
  )

noncomputable def gLadderLadderAt (x0 : LadderLadder) : Option Int :=
  some x0.fAt

noncomputable def gLadderLadderEnough (x0 : LadderLadder) (x1 : Int) (x2 : Int) : Option Bool :=
  need (InB x2 (lenL x0.fNeeds)) <|
  need (InB x2 (lenL x0.fNeeds)) <|
  need (NonZ 10) <|
  some (leI (addI .i64 (nthI x0.fNeeds x2) (mulI .i64 (quoI .i64 (nthI x0.fNeeds x2) 10) x0.fConfig.fSpare)) x1)

noncomputable def gLadderLadderTick (x0 : LadderLadder) (x1 : Int) : Option (Bool × LadderLadder) :=
  ((
    need (InB x0.fAt (lenL x0.fNeeds)) <|
    bif (pickB (ltI x1 (nthI x0.fNeeds x0.fAt)) (ltI 0 x0.fAt) false) then (
      bif (leI x0.fConfig.fDown (addI .i64 x0.fBad 1)) then (
        ((gLadderLadderStep (LadderLadder.mk x0.fConfig x0.fNeeds x0.fAt x0.fMost (addI .i64 x0.fBad 1) 0 x0.fMoves) (subI .i64 x0.fAt 1))).bind fun r1 =>
        some (.out (true, r1))
      ) else (
        some (.go (LadderLadder.mk x0.fConfig x0.fNeeds x0.fAt x0.fMost (addI .i64 x0.fBad 1) 0 x0.fMoves))
      )
    ) else (
      need (Under (ltI x0.fAt x0.fMost) true ((gLadderLadderEnough x0 x1 (addI .i64 x0.fAt 1)).isSome = true)) <|
      bif (pickB (ltI x0.fAt x0.fMost) ((gLadderLadderEnough x0 x1 (addI .i64 x0.fAt 1)).getD dflt) false) then (
        bif (leI x0.fConfig.fUp (addI .i64 x0.fGood 1)) then (
          ((gLadderLadderStep (LadderLadder.mk x0.fConfig x0.fNeeds x0.fAt x0.fMost 0 (addI .i64 x0.fGood 1) x0.fMoves) (addI .i64 x0.fAt 1))).bind fun r2 =>
          some (.out (true, r2))
        ) else (
          some (.go (LadderLadder.mk x0.fConfig x0.fNeeds x0.fAt x0.fMost 0 (addI .i64 x0.fGood 1) x0.fMoves))
        )
      ) else (
        some (.go (LadderLadder.mk x0.fConfig x0.fNeeds x0.fAt x0.fMost 0 0 x0.fMoves))
      )
    )
    : Option (Fl LadderLadder (Bool × LadderLadder))).bind fun f => flC f fun (v1 : LadderLadder) =>
    some (false, v1)
  )

noncomputable def gLadderLadderMoves (x0 : LadderLadder) : Option Int :=
  some x0.fMoves

noncomputable def gLadderNew (x0 : LadderConfig) (x1 : Int) (x2 : List Int) : Option (Option LadderLadder × Int) :=
  ((gLadderConfigCheck x0)).bind fun r1 =>
  bif (neI r1 0) then (
    some (none, r1)
  ) else (
    need (Under (pickB (ltI (lenL x2) 1) true (ltI 3 (lenL x2))) false ((gSlicesIsSortedIntInt x2).isSome = true)) <|
    need (Under (pickB (pickB (ltI (lenL x2) 1) true (ltI 3 (lenL x2))) true (notB ((gSlicesIsSortedIntInt x2).getD dflt))) false (InB 0 (lenL x2))) <|
    need (Under (pickB (pickB (pickB (ltI (lenL x2) 1) true (ltI 3 (lenL x2))) true (notB ((gSlicesIsSortedIntInt x2).getD dflt))) true (ltI (nthI x2 0) 0)) false (InB (subI .i64 (lenL x2) 1) (lenL x2))) <|
    bif (pickB (pickB (pickB (pickB (ltI (lenL x2) 1) true (ltI 3 (lenL x2))) true (notB ((gSlicesIsSortedIntInt x2).getD dflt))) true (ltI (nthI x2 0) 0)) true (ltI 1099511627776 (nthI x2 (subI .i64 (lenL x2) 1)))) then (
      some (none, 5)
    ) else (
      need (AppB 0 (lenL x2) 8) <|
      ((gLadderLadderWant (LadderLadder.mk x0 x2 0 0 0 0 0) x1)).bind fun r2 =>
      some ((some (LadderLadder.mk r2.2.fConfig r2.2.fNeeds r2.2.fMost r2.2.fMost r2.2.fBad r2.2.fGood r2.2.fMoves)), 0)
    )
  )
end Go.Proofs
