/- What these functions compute, as plain functions. No condition. -/
import Derived.Test.YtdcfbacpklklcaaTs
import Derived.Test.YtdcfbacpklklcaaLdD
import Derived.Test.YtdcfbacpklklcaaWlD
namespace Go.Proofs
open Go.Ab
noncomputable def gLaw23LadderWants.loop1 (x4 : List Int) (x5 : List Int) (_s1 : Unit) : Option (Fl Unit (Fl Unit Bool)) :=
  bif (pickB (ltI 0 (lenL x4)) (ltI 0 100) false) then (
    ((
      need (Under (ltI 0 (lenL x5)) true (InB 0 (lenL x5))) <|
      bif (pickB (ltI 0 (lenL x5)) (eqI (bitsOp .and .i64 (nthI x5 0) 1) 1) false) then (
        none
      ) else (
        some (.go ())
      )
      : Option (Fl Unit (Fl Unit (Fl Unit Bool)))).bind fun f => flC f fun (_v3 : Unit) =>
      none
    )
  ) else (
    some (.out (.go ()))
  )

noncomputable def gLaw23LadderWants.loop4 (x4 : List Int) (x5 : List Int) (r2 : List Int) (s4 : Int × Int × LadderLadder) : Option (Fl (Int × Int × LadderLadder) (Fl LadderLadder Bool)) :=
  bif (pickB (ltI s4.1 (lenL x4)) (ltI s4.1 100) false) then (
    ((
      ((
        need (Under (ltI s4.1 (lenL x5)) true (InB s4.1 (lenL x5))) <|
        bif (pickB (ltI s4.1 (lenL x5)) (eqI (bitsOp .and .i64 (nthI x5 s4.1) 1) 1) false) then (
          ((gLadderLadderAt s4.2.2)).bind fun r4 =>
          need (InB s4.1 (lenL x5)) <|
          need (NonN 1) <|
          need (InB s4.1 (lenL x5)) <|
          need (NonN 1) <|
          ((gLadderLadderWant s4.2.2 (shrI .i64 (nthI x5 s4.1) 1))).bind fun r5 =>
          need (Under (neB r5.1 (ltI (minI (maxI (shrI .i64 (nthI x5 s4.1) 1) 0) (subI .i64 (lenL r2) 1)) r4)) false ((gLadderLadderAt r5.2).isSome = true)) <|
          bif (pickB (neB r5.1 (ltI (minI (maxI (shrI .i64 (nthI x5 s4.1) 1) 0) (subI .i64 (lenL r2) 1)) r4)) true (neI ((gLadderLadderAt r5.2).getD dflt) (minI r4 (minI (maxI (shrI .i64 (nthI x5 s4.1) 1) 0) (subI .i64 (lenL r2) 1))))) then (
            some (.out (.out (.out (.out false))))
          ) else (
            some (.go (r5.2, (minI (maxI (shrI .i64 (nthI x5 s4.1) 1) 0) (subI .i64 (lenL r2) 1))))
          )
        ) else (
          some (.go (s4.2.2, s4.2.1))
        )
        : Option (Fl (LadderLadder × Int) (Fl (Int × LadderLadder) (Fl (Int × Int × LadderLadder) (Fl LadderLadder Bool))))).bind fun f => flC f fun (v6 : LadderLadder × Int) =>
        ((gLadderLadderAt v6.1)).bind fun r6 =>
        need (InB s4.1 (lenL x4)) <|
        ((gLadderLadderTick v6.1 (nthI x4 s4.1))).bind fun r7 =>
        ((gLadderLadderAt r7.2)).bind fun r8 =>
        need (Under (ltI r8 0) false ((gLadderLadderAt r7.2).isSome = true)) <|
        need (Under (pickB (ltI r8 0) true (ltI v6.2 ((gLadderLadderAt r7.2).getD dflt))) false ((gLadderLadderAt r7.2).isSome = true)) <|
        need (Under (pickB (pickB (ltI r8 0) true (ltI v6.2 ((gLadderLadderAt r7.2).getD dflt))) true (neB r7.1 (neI ((gLadderLadderAt r7.2).getD dflt) r6))) false ((gLadderLadderAt r7.2).isSome = true)) <|
        need (Under (pickB (pickB (pickB (ltI r8 0) true (ltI v6.2 ((gLadderLadderAt r7.2).getD dflt))) true (neB r7.1 (neI ((gLadderLadderAt r7.2).getD dflt) r6))) true (ltI 1 (subI .i64 ((gLadderLadderAt r7.2).getD dflt) r6))) false ((gLadderLadderAt r7.2).isSome = true)) <|
        bif (pickB (pickB (pickB (pickB (ltI r8 0) true (ltI v6.2 ((gLadderLadderAt r7.2).getD dflt))) true (neB r7.1 (neI ((gLadderLadderAt r7.2).getD dflt) r6))) true (ltI 1 (subI .i64 ((gLadderLadderAt r7.2).getD dflt) r6))) true (ltI 1 (subI .i64 r6 ((gLadderLadderAt r7.2).getD dflt)))) then (
          some (.out (.out (.out false)))
        ) else (
          some (.go (v6.2, r7.2))
        )
      )
      : Option (Fl (Int × LadderLadder) (Fl (Int × Int × LadderLadder) (Fl LadderLadder Bool)))).bind fun f => flC f fun (v5 : Int × LadderLadder) =>
      some (.go ((addI .i64 s4.1 1), v5.1, v5.2))
    )
  ) else (
    some (.out (.go s4.2.2))
  )

noncomputable def gLaw23LadderWants (x0 : Int) (x1 : Int) (x2 : Int) (x3 : List Int) (x4 : List Int) (x5 : List Int) : Option Bool :=
  (gLaw23Awake).bind fun r1 =>
  bif (notB r1) then (
    some false
  ) else (
    ((gLaw23Needs x3)).bind fun r2 =>
    ((gLadderNew (LadderConfig.mk (addI .i64 1 (bitsOp .and .i64 x0 7)) (addI .i64 1 (bitsOp .and .i64 x1 7)) 0) x2 r2)).bind fun r3 =>
    optC r3.1 (
      bif (neI r3.2 0) then (
        some false
      ) else (
        ((loopF (gLaw23LadderWants.loop1 x4 x5) ()).bind fun f => flC f fun (_v1 : Unit) =>
          some true
        )
      )
    ) fun o1 => (
      bif (neI r3.2 0) then (
        some false
      ) else (
        ((loopF (gLaw23LadderWants.loop4 x4 x5 r2) (0, (minI (maxI x2 0) (subI .i64 (lenL r2) 1)), o1)).bind fun f => flC f fun (_v4 : LadderLadder) =>
          some true
        )
      )
    )
  )
end Go.Proofs
