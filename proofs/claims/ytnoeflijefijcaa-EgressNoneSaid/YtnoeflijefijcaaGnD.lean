/- What these functions compute, as plain functions. No condition. -/
import Derived.Test.YtnoeflijefijcaaTs
import Derived.Test.YtnoeflijefijcaaM03
import Derived.Test.YtnoeflijefijcaaM04
namespace Go.Proofs
open Go.Ab
noncomputable def gl.loop4 (r4 : Ts × List Tc × Bool) (s4 : Int) : Option (Fl Int (Fl Unit (Fl ((List (Int × Int)) × (List (Int × Int)) × Int × Int × Bool × (List (Int × Td)) × Tl × Int × Int × Tb × Int × Int) (Fl (Int × (List (Int × Int)) × (List (Int × Int)) × Int × Int × Bool × (List (Int × Td)) × Tl × Int × Int × Tb × Int × Int) (Fl ((List (Int × Int)) × (List (Int × Int)) × Int × Int × Bool × (List (Int × Td)) × Tl × Int × Int × Tb × Int × Int) Bool))))) :=
 bif (ltI s4 (lenL r4.2.1)) then (
  need (InB s4 (lenL r4.2.1)) <|
  bif (neI ((nthI r4.2.1 s4).fC.fm) 0) then (
   some (.out (.out (.out (.out (.out false)))))
  ) else (
   some (.go (addI .i64 s4 1))
  )
 ) else (
  some (.out (.go ()))
 )

noncomputable def gl.loop1 (x2 : List Th) (s1 : Int × (List (Int × Int)) × (List (Int × Int)) × Int × Int × Bool × (List (Int × Td)) × Tl × Int × Int × Tb × Int × Int) : Option (Fl (Int × (List (Int × Int)) × (List (Int × Int)) × Int × Int × Bool × (List (Int × Td)) × Tl × Int × Int × Tb × Int × Int) (Fl ((List (Int × Int)) × (List (Int × Int)) × Int × Int × Bool × (List (Int × Td)) × Tl × Int × Int × Tb × Int × Int) Bool)) :=
 bif (pickB (ltI s1.1 (lenL x2)) (ltI s1.1 80) false) then (
  ((
   need (InB s1.1 (lenL x2)) <|
   ((
    bif (eqI ((nthI x2 s1.1).fw) 2) then (
     some (.go (Th.mk 3 ((nthI x2 s1.1).fId) ((nthI x2 s1.1).fN) ((nthI x2 s1.1).fz) ((nthI x2 s1.1).fq)))
    ) else (
     some (.go (nthI x2 s1.1))
    )
    : Option (Fl Th (Fl ((List (Int × Int)) × (List (Int × Int)) × Int × Int × Bool × (List (Int × Td)) × Tl × Int × Int × Tb × Int × Int) (Fl (Int × (List (Int × Int)) × (List (Int × Int)) × Int × Int × Bool × (List (Int × Td)) × Tl × Int × Int × Tb × Int × Int) (Fl ((List (Int × Int)) × (List (Int × Int)) × Int × Int × Bool × (List (Int × Td)) × Tl × Int × Int × Tb × Int × Int) Bool))))).bind fun f => flC f fun (v3 : Th) =>
    ((gy (Ts.mk (Tg.mk s1.2.2.2.2.2.2.2.1 s1.2.2.2.2.2.2.1 (Tq.mk s1.2.2.2.1 s1.2.1 s1.2.2.1 s1.2.2.2.2.1 s1.2.2.2.2.2.1) s1.2.2.2.2.2.2.2.2.1 s1.2.2.2.2.2.2.2.2.2.1) s1.2.2.2.2.2.2.2.2.2.2.1 s1.2.2.2.2.2.2.2.2.2.2.2.1 s1.2.2.2.2.2.2.2.2.2.2.2.2) v3)).bind fun r4 =>
    need (Under (notB r4.2.2) false ((gp r4.1.fO).isSome = true)) <|
    bif (pickB (notB r4.2.2) true (neI ((gp r4.1.fO).getD dflt) 0)) then (
     some (.out (.out (.out false)))
    ) else (
     ((loopF (gl.loop4 r4) 0).bind fun f => flC f fun (_v4 : Unit) =>
      some (.go (r4.1.fO.fa.fj, r4.1.fO.fa.fk, r4.1.fO.fa.fb, r4.1.fO.fa.fAt, r4.1.fO.fa.ff, r4.1.fO.fg, r4.1.fO.fe, r4.1.fO.fc, r4.1.fO.fd, r4.1.fX, r4.1.fB, r4.1.fN))
     )
    )
   )
   : Option (Fl ((List (Int × Int)) × (List (Int × Int)) × Int × Int × Bool × (List (Int × Td)) × Tl × Int × Int × Tb × Int × Int) (Fl (Int × (List (Int × Int)) × (List (Int × Int)) × Int × Int × Bool × (List (Int × Td)) × Tl × Int × Int × Tb × Int × Int) (Fl ((List (Int × Int)) × (List (Int × Int)) × Int × Int × Bool × (List (Int × Td)) × Tl × Int × Int × Tb × Int × Int) Bool)))).bind fun f => flC f fun (v2 : (List (Int × Int)) × (List (Int × Int)) × Int × Int × Bool × (List (Int × Td)) × Tl × Int × Int × Tb × Int × Int) =>
   some (.go ((addI .i64 s1.1 1), v2.1, v2.2.1, v2.2.2.1, v2.2.2.2.1, v2.2.2.2.2.1, v2.2.2.2.2.2.1, v2.2.2.2.2.2.2.1, v2.2.2.2.2.2.2.2.1, v2.2.2.2.2.2.2.2.2.1, v2.2.2.2.2.2.2.2.2.2.1, v2.2.2.2.2.2.2.2.2.2.2.1, v2.2.2.2.2.2.2.2.2.2.2.2))
  )
 ) else (
  some (.out (.go (s1.2.1, s1.2.2.1, s1.2.2.2.1, s1.2.2.2.2.1, s1.2.2.2.2.2.1, s1.2.2.2.2.2.2.1, s1.2.2.2.2.2.2.2.1, s1.2.2.2.2.2.2.2.2.1, s1.2.2.2.2.2.2.2.2.2.1, s1.2.2.2.2.2.2.2.2.2.2.1, s1.2.2.2.2.2.2.2.2.2.2.2.1, s1.2.2.2.2.2.2.2.2.2.2.2.2)))
 )

noncomputable def gl (x0 : Int) (x1 : Int) (x2 : List Th) : Option Bool :=
 ((gQ x0 x1)).bind fun r1 =>
 ((gan r1)).bind fun r2 =>
 (gE).bind fun r3 =>
 bif (pickB (notB r3) true (notB r2.2)) then (
  some false
 ) else (
  ((loopF (gl.loop1 x2) (0, r2.1.fO.fa.fj, r2.1.fO.fa.fk, r2.1.fO.fa.fb, r2.1.fO.fa.fAt, r2.1.fO.fa.ff, r2.1.fO.fg, r2.1.fO.fe, r2.1.fO.fc, r2.1.fO.fd, r2.1.fX, r2.1.fB, r2.1.fN)).bind fun f => flC f fun (v1 : (List (Int × Int)) × (List (Int × Int)) × Int × Int × Bool × (List (Int × Td)) × Tl × Int × Int × Tb × Int × Int) =>
   ((gu (Tg.mk v1.2.2.2.2.2.2.1 v1.2.2.2.2.2.1 (Tq.mk v1.2.2.1 v1.1 v1.2.1 v1.2.2.2.1 v1.2.2.2.2.1) v1.2.2.2.2.2.2.2.1 v1.2.2.2.2.2.2.2.2.1) 1)).bind fun r5 =>
   bif (notB r5.1) then (
    ((gu r5.2 0)).bind fun r6 =>
    bif r6.1 then (
     ((gu r6.2 (-1))).bind fun r7 =>
     some (notB r7.1)
    ) else (
     some false
    )
   ) else (
    some false
   )
  )
 )
end Go.Proofs
