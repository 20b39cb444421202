/- What these functions compute, as plain functions. No condition. -/
import Derived.Test.YtdcfbacpklklcaaTs
import Derived.Test.YtdcfbacpklklcaaLdD
import Derived.Test.YtdcfbacpklklcaaWlD
import Derived.Test.YtdcfbacpklklcaaRlD
namespace Go.Proofs
open Go.Ab
noncomputable def gLaw23LadderPlays.loop1 (x5 : List Int) (_s1 : Unit) : Option (Fl Unit (Fl Unit Bool)) :=
  bif (pickB (ltI 0 (lenL x5)) (ltI 0 200) false) then (
    none
  ) else (
    some (.out (.go ()))
  )

noncomputable def gLaw23LadderPlays.loop2 (x5 : List Int) (s2 : Int × LadderLadder × Antiphonref23Ladder) : Option (Fl (Int × LadderLadder × Antiphonref23Ladder) (Fl (LadderLadder × Antiphonref23Ladder) Bool)) :=
  bif (pickB (ltI s2.1 (lenL x5)) (ltI s2.1 200) false) then (
    need (InB s2.1 (lenL x5)) <|
    ((gLadderLadderTick s2.2.1 (nthI x5 s2.1))).bind fun r4 =>
    need (InB s2.1 (lenL x5)) <|
    ((gRef23Tick s2.2.2 (nthI x5 s2.1))).bind fun r5 =>
    need (Under (neB r4.1 r5.2) false ((gLadderLadderAt r4.2).isSome = true)) <|
    need (Under (pickB (neB r4.1 r5.2) true (neI ((gLadderLadderAt r4.2).getD dflt) r5.1.fAt)) false ((gLadderLadderMoves r4.2).isSome = true)) <|
    bif (pickB (pickB (neB r4.1 r5.2) true (neI ((gLadderLadderAt r4.2).getD dflt) r5.1.fAt)) true (neI ((gLadderLadderMoves r4.2).getD dflt) r5.1.fMoves)) then (
      some (.out (.out false))
    ) else (
      some (.go ((addI .i64 s2.1 1), r4.2, r5.1))
    )
  ) else (
    some (.out (.go (s2.2.1, s2.2.2)))
  )

noncomputable def gLaw23LadderPlays (x0 : Int) (x1 : Int) (x2 : Int) (x3 : Int) (x4 : List Int) (x5 : List Int) : Option Bool :=
  (gLaw23Awake).bind fun r1 =>
  bif (notB r1) then (
    some false
  ) else (
    ((gLaw23Needs x4)).bind fun r2 =>
    ((gLadderNew (LadderConfig.mk (addI .i64 1 (bitsOp .and .i64 x0 7)) (addI .i64 1 (bitsOp .and .i64 x1 7)) (bitsOp .and .i64 x2 15)) x3 r2)).bind fun r3 =>
    optC r3.1 (
      bif (neI r3.2 0) then (
        some false
      ) else (
        ((loopF (gLaw23LadderPlays.loop1 x5) ()).bind fun f => flC f fun (_v1 : Unit) =>
          some true
        )
      )
    ) fun o1 => (
      bif (neI r3.2 0) then (
        some false
      ) else (
        ((loopF (gLaw23LadderPlays.loop2 x5) (0, o1, (Antiphonref23Ladder.mk (addI .i64 1 (bitsOp .and .i64 x0 7)) (addI .i64 1 (bitsOp .and .i64 x1 7)) (bitsOp .and .i64 x2 15) r2 (minI (maxI x3 0) (subI .i64 (lenL r2) 1)) (minI (maxI x3 0) (subI .i64 (lenL r2) 1)) 0 []))).bind fun f => flC f fun (_v2 : LadderLadder × Antiphonref23Ladder) =>
          some true
        )
      )
    )
  )
end Go.Proofs
