/- What these functions compute, as plain functions. No condition. -/
import Derived.Test.YtoaiieheibcnlaaDoorTs
import Derived.Test.YtoaiieheibcnlaaDoorUnD
namespace Go.Proofs
open Go.Ab
noncomputable def gRef06Size (x0 : Int) : Option Int :=
  bif (ltI x0 128) then (
    some 1
  ) else (
    bif (ltI x0 2048) then (
      some 2
    ) else (
      bif (ltI x0 65536) then (
        some 3
      ) else (
        some 4
      )
    )
  )

noncomputable def gRef06Class (x0 : Int) : Option Int :=
  bif (pickB (pickB (eqI x0 45) true (eqI x0 95)) true (eqI x0 46)) then (
    some 3
  ) else (
    need (I32B x0) <|
    bif (letterR x0) then (
      some 1
    ) else (
      need (I32B x0) <|
      bif (digitR x0) then (
        some 2
      ) else (
        some 0
      )
    )
  )

noncomputable def gRef06Runes.loop1 (x0 : ByteArray) (s1 : Int × List Int × Nat) : Option (Fl (Int × List Int × Nat) (Fl (List Int) (List Int × Bool))) :=
  bif (nextB x0 s1.2.2) then (
    ((gRef06Size (runeS x0 s1.2.2))).bind fun r1 =>
    need (Under (ltI (lenS x0) (addI .i64 s1.1 r1)) false (CutB s1.1 (addI .i64 s1.1 r1) (lenS x0))) <|
    bif (pickB (ltI (lenS x0) (addI .i64 s1.1 r1)) true (neS (runesBytes [(runeS x0 s1.2.2)]) (cutS x0 s1.1 (addI .i64 s1.1 r1)))) then (
      some (.out (.out ([], false)))
    ) else (
      need (AppB (lenL s1.2.1) 1 4) <|
      some (.go ((addI .i64 s1.1 r1), (appL s1.2.1 [(runeS x0 s1.2.2)]), (stepS x0 s1.2.2)))
    )
  ) else (
    some (.out (.go s1.2.1))
  )

noncomputable def gRef06Runes (x0 : ByteArray) : Option (List Int × Bool) :=
  ((loopF (gRef06Runes.loop1 x0) (0, [], 0)).bind fun f => flC f fun (v1 : List Int) =>
    some (v1, true)
  )

noncomputable def gRef06Good.loop1 (r1 : List Int × Bool) (s1 : Int) : Option (Fl Int (Fl Unit Bool)) :=
  bif (ltI s1 (lenL r1.1)) then (
    need (InB s1 (lenL r1.1)) <|
    ((gRef06Class (nthI r1.1 s1))).bind fun r2 =>
    need (Under (pickB (eqI s1 0) true (eqI s1 (subI .i64 (lenL r1.1) 1))) false (Under (eqI r2 3) true (Under (eqI r2 0) false (InB (subI .i64 s1 1) (lenL r1.1))))) <|
    need (Under (pickB (eqI s1 0) true (eqI s1 (subI .i64 (lenL r1.1) 1))) false (Under (eqI r2 3) true (Under (eqI r2 0) false ((gRef06Class (nthI r1.1 (subI .i64 s1 1))).isSome = true)))) <|
    bif (pickB (eqI r2 0) true (pickB (eqI r2 3) (pickB (pickB (eqI s1 0) true (eqI s1 (subI .i64 (lenL r1.1) 1))) true (eqI ((gRef06Class (nthI r1.1 (subI .i64 s1 1))).getD dflt) 3)) false)) then (
      some (.out (.out false))
    ) else (
      some (.go (addI .i64 s1 1))
    )
  ) else (
    some (.out (.go ()))
  )

noncomputable def gRef06Good (x0 : ByteArray) : Option Bool :=
  ((gRef06Runes x0)).bind fun r1 =>
  bif (pickB (pickB (notB r1.2) true (ltI (lenL r1.1) 1)) true (ltI 16 (lenL r1.1))) then (
    some false
  ) else (
    ((loopF (gRef06Good.loop1 r1) 0).bind fun f => flC f fun (_v1 : Unit) =>
      some true
    )
  )

noncomputable def gRef06Fold.loop1 (x0 : ByteArray) (s1 : List Int × Nat) : Option (Fl (List Int × Nat) (Fl (List Int) ByteArray)) :=
  bif (nextB x0 s1.2) then (
    need (AppB (lenL s1.1) 1 4) <|
    some (.go ((appL s1.1 [(lowerR (runeS x0 s1.2))]), (stepS x0 s1.2)))
  ) else (
    some (.out (.go s1.1))
  )

noncomputable def gRef06Fold (x0 : ByteArray) : Option ByteArray :=
  ((loopF (gRef06Fold.loop1 x0) ([], 0)).bind fun f => flC f fun (v1 : List Int) =>
    some (runesBytes v1)
  )

noncomputable def gRef06Short.loop1  (s1 : Int × List Int) : Option (Fl (Int × List Int) (Fl (List Int) ByteArray)) :=
  need (Under (pickB (ltI s1.1 20) (ltI 0 (lenL s1.2)) false) true (InB (subI .i64 (lenL s1.2) 1) (lenL s1.2))) <|
  need (Under (pickB (ltI s1.1 20) (ltI 0 (lenL s1.2)) false) true ((gRef06Class (nthI s1.2 (subI .i64 (lenL s1.2) 1))).isSome = true)) <|
  bif (pickB (pickB (ltI s1.1 20) (ltI 0 (lenL s1.2)) false) (eqI ((gRef06Class (nthI s1.2 (subI .i64 (lenL s1.2) 1))).getD dflt) 3) false) then (
    need (CutB 0 (subI .i64 (lenL s1.2) 1) (lenL s1.2)) <|
    some (.go ((addI .i64 s1.1 1), (cutL s1.2 0 (subI .i64 (lenL s1.2) 1))))
  ) else (
    some (.out (.go s1.2))
  )

noncomputable def gRef06Short (x0 : ByteArray) (x1 : Int) : Option ByteArray :=
  ((gRef06Runes x0)).bind fun r1 =>
  need (CutB 0 (minI (maxI x1 0) (lenL r1.1)) (lenL r1.1)) <|
  ((loopF gRef06Short.loop1 (0, (cutL r1.1 0 (minI (maxI x1 0) (lenL r1.1))))).bind fun f => flC f fun (v1 : List Int) =>
    some (runesBytes v1)
  )
end Go.Proofs
