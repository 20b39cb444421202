/- What these functions compute, as plain functions. No condition. -/
import Derived.Test.YtnoeflijefijcaaTs
import Derived.Test.YtnoeflijefijcaaM03
import Derived.Test.YtnoeflijefijcaaM04
namespace Go.Proofs
open Go.Ab
noncomputable def gf.loop4 (s1 : Int × Int × Int × (List (Int × Int)) × (List (Int × Int)) × Int × Int × Bool × (List (Int × Td)) × Tl × Int × Int × Tb × Int × Int) (s4 : Int × Int) : Option (Fl (Int × Int) (Fl Int (Fl (Int × Int × (List (Int × Int)) × (List (Int × Int)) × Int × Int × Bool × (List (Int × Td)) × Tl × Int × Int × Tb × Int × Int) (Fl (Int × Int × Int × (List (Int × Int)) × (List (Int × Int)) × Int × Int × Bool × (List (Int × Td)) × Tl × Int × Int × Tb × Int × Int) (Fl (Int × Int × (List (Int × Int)) × (List (Int × Int)) × Int × Int × Bool × (List (Int × Td)) × Tl × Int × Int × Tb × Int × Int) Bool))))) :=
 bif (ltI s4.1 (lenL s1.2.2.2.2.2.2.2.2.2.2.2.2.1.fL)) then (
  need (InB s4.1 (lenL s1.2.2.2.2.2.2.2.2.2.2.2.2.1.fL)) <|
  some (.go ((addI .i64 s4.1 1), (addI .i64 s4.2 (lenL ((nthI s1.2.2.2.2.2.2.2.2.2.2.2.2.1.fL s4.1).fQ.fL)))))
 ) else (
  some (.out (.go s4.2))
 )

noncomputable def gf.loop5 (r4 : Ts × List Tc × Bool) (v3 : Th) (s5 : Int × Int) : Option (Fl (Int × Int) (Fl Int (Fl (Int × Int × (List (Int × Int)) × (List (Int × Int)) × Int × Int × Bool × (List (Int × Td)) × Tl × Int × Int × Tb × Int × Int) (Fl (Int × Int × Int × (List (Int × Int)) × (List (Int × Int)) × Int × Int × Bool × (List (Int × Td)) × Tl × Int × Int × Tb × Int × Int) (Fl (Int × Int × (List (Int × Int)) × (List (Int × Int)) × Int × Int × Bool × (List (Int × Td)) × Tl × Int × Int × Tb × Int × Int) Bool))))) :=
 bif (ltI s5.1 (lenL r4.1.fX.fL)) then (
  need (InB s5.1 (lenL r4.1.fX.fL)) <|
  ((gL r4.1.fO ((nthI r4.1.fX.fL s5.1).fId))).bind fun r5 =>
  need (Under (pickB (eqI v3.fw 4) (ltI 0 r5.1) false) true (InB 0 (lenL ((nthI r4.1.fX.fL s5.1).fQ.fL)))) <|
  bif (pickB (pickB (eqI v3.fw 4) (ltI 0 r5.1) false) (leqI r4.1.fX.fu (subI .i64 r4.1.fB ((nthI ((nthI r4.1.fX.fL s5.1).fQ.fL) 0).fy))) false) then (
   some (.out (.out (.out (.out (.out false)))))
  ) else (
   some (.go ((addI .i64 s5.1 1), (addI .i64 s5.2 (lenL ((nthI r4.1.fX.fL s5.1).fQ.fL)))))
  )
 ) else (
  some (.out (.go s5.2))
 )

noncomputable def gf.loop1 (x2 : List Th) (s1 : Int × Int × Int × (List (Int × Int)) × (List (Int × Int)) × Int × Int × Bool × (List (Int × Td)) × Tl × Int × Int × Tb × Int × Int) : Option (Fl (Int × Int × Int × (List (Int × Int)) × (List (Int × Int)) × Int × Int × Bool × (List (Int × Td)) × Tl × Int × Int × Tb × Int × Int) (Fl (Int × Int × (List (Int × Int)) × (List (Int × Int)) × Int × Int × Bool × (List (Int × Td)) × Tl × Int × Int × Tb × Int × Int) Bool)) :=
 bif (pickB (ltI s1.1 (lenL x2)) (ltI s1.1 100) false) then (
  ((
   need (InB s1.1 (lenL x2)) <|
   ((
    bif (eqI ((nthI x2 s1.1).fw) 2) then (
     some (.go (Th.mk 4 ((nthI x2 s1.1).fId) ((nthI x2 s1.1).fN) ((nthI x2 s1.1).fz) ((nthI x2 s1.1).fq)))
    ) else (
     some (.go (nthI x2 s1.1))
    )
    : Option (Fl Th (Fl (Int × Int × (List (Int × Int)) × (List (Int × Int)) × Int × Int × Bool × (List (Int × Td)) × Tl × Int × Int × Tb × Int × Int) (Fl (Int × Int × Int × (List (Int × Int)) × (List (Int × Int)) × Int × Int × Bool × (List (Int × Td)) × Tl × Int × Int × Tb × Int × Int) (Fl (Int × Int × (List (Int × Int)) × (List (Int × Int)) × Int × Int × Bool × (List (Int × Td)) × Tl × Int × Int × Tb × Int × Int) Bool))))).bind fun f => flC f fun (v3 : Th) =>
    ((loopF (gf.loop4 s1) (0, 0)).bind fun f => flC f fun (v4 : Int) =>
     ((gy (Ts.mk (Tg.mk s1.2.2.2.2.2.2.2.2.2.1 s1.2.2.2.2.2.2.2.2.1 (Tq.mk s1.2.2.2.2.2.1 s1.2.2.2.1 s1.2.2.2.2.1 s1.2.2.2.2.2.2.1 s1.2.2.2.2.2.2.2.1) s1.2.2.2.2.2.2.2.2.2.2.1 s1.2.2.2.2.2.2.2.2.2.2.2.1) s1.2.2.2.2.2.2.2.2.2.2.2.2.1 s1.2.2.2.2.2.2.2.2.2.2.2.2.2.1 s1.2.2.2.2.2.2.2.2.2.2.2.2.2.2) v3)).bind fun r4 =>
     bif (notB r4.2.2) then (
      some (.out (.out (.out false)))
     ) else (
      ((loopF (gf.loop5 r4 v3) (0, 0)).bind fun f => flC f fun (v5 : Int) =>
       some (.go ((addI .i64 s1.2.1 (maxI (subI .i64 v5 v4) 0)), (addI .i64 s1.2.2.1 (maxI (subI .i64 v4 v5) 0)), r4.1.fO.fa.fj, r4.1.fO.fa.fk, r4.1.fO.fa.fb, r4.1.fO.fa.fAt, r4.1.fO.fa.ff, r4.1.fO.fg, r4.1.fO.fe, r4.1.fO.fc, r4.1.fO.fd, r4.1.fX, r4.1.fB, r4.1.fN))
      )
     )
    )
   )
   : Option (Fl (Int × Int × (List (Int × Int)) × (List (Int × Int)) × Int × Int × Bool × (List (Int × Td)) × Tl × Int × Int × Tb × Int × Int) (Fl (Int × Int × Int × (List (Int × Int)) × (List (Int × Int)) × Int × Int × Bool × (List (Int × Td)) × Tl × Int × Int × Tb × Int × Int) (Fl (Int × Int × (List (Int × Int)) × (List (Int × Int)) × Int × Int × Bool × (List (Int × Td)) × Tl × Int × Int × Tb × Int × Int) Bool)))).bind fun f => flC f fun (v2 : Int × Int × (List (Int × Int)) × (List (Int × Int)) × Int × Int × Bool × (List (Int × Td)) × Tl × Int × Int × Tb × Int × Int) =>
   some (.go ((addI .i64 s1.1 1), v2.1, v2.2.1, v2.2.2.1, v2.2.2.2.1, v2.2.2.2.2.1, v2.2.2.2.2.2.1, v2.2.2.2.2.2.2.1, v2.2.2.2.2.2.2.2.1, v2.2.2.2.2.2.2.2.2.1, v2.2.2.2.2.2.2.2.2.2.1, v2.2.2.2.2.2.2.2.2.2.2.1, v2.2.2.2.2.2.2.2.2.2.2.2.1, v2.2.2.2.2.2.2.2.2.2.2.2.2.1, v2.2.2.2.2.2.2.2.2.2.2.2.2.2))
  )
 ) else (
  some (.out (.go (s1.2.1, s1.2.2.1, s1.2.2.2.1, s1.2.2.2.2.1, s1.2.2.2.2.2.1, s1.2.2.2.2.2.2.1, s1.2.2.2.2.2.2.2.1, s1.2.2.2.2.2.2.2.2.1, s1.2.2.2.2.2.2.2.2.2.1, s1.2.2.2.2.2.2.2.2.2.2.1, s1.2.2.2.2.2.2.2.2.2.2.2.1, s1.2.2.2.2.2.2.2.2.2.2.2.2.1, s1.2.2.2.2.2.2.2.2.2.2.2.2.2.1, s1.2.2.2.2.2.2.2.2.2.2.2.2.2.2)))
 )

noncomputable def gf.loop6 (r6 : List Tc × Tg) (v1 : Int × Int × (List (Int × Int)) × (List (Int × Int)) × Int × Int × Bool × (List (Int × Td)) × Tl × Int × Int × Tb × Int × Int) (s6 : Int) : Option (Fl Int (Fl Unit Bool)) :=
 bif (ltI s6 (lenL v1.2.2.2.2.2.2.2.2.2.2.2.1.fL)) then (
  need (InB s6 (lenL v1.2.2.2.2.2.2.2.2.2.2.2.1.fL)) <|
  ((gL r6.2 ((nthI v1.2.2.2.2.2.2.2.2.2.2.2.1.fL s6).fId))).bind fun r7 =>
  bif (pickB (neI r7.1 0) true (neI r7.2 0)) then (
   some (.out (.out false))
  ) else (
   some (.go (addI .i64 s6 1))
  )
 ) else (
  some (.out (.go ()))
 )

noncomputable def gf (x0 : Int) (x1 : Int) (x2 : List Th) : Option Bool :=
 ((gQ x0 x1)).bind fun r1 =>
 ((gan r1)).bind fun r2 =>
 (gE).bind fun r3 =>
 bif (pickB (notB r3) true (notB r2.2)) then (
  some false
 ) else (
  ((loopF (gf.loop1 x2) (0, 0, 0, r2.1.fO.fa.fj, r2.1.fO.fa.fk, r2.1.fO.fa.fb, r2.1.fO.fa.fAt, r2.1.fO.fa.ff, r2.1.fO.fg, r2.1.fO.fe, r2.1.fO.fc, r2.1.fO.fd, r2.1.fX, r2.1.fB, r2.1.fN)).bind fun f => flC f fun (v1 : Int × Int × (List (Int × Int)) × (List (Int × Int)) × Int × Int × Bool × (List (Int × Td)) × Tl × Int × Int × Tb × Int × Int) =>
   ((gq (Tg.mk v1.2.2.2.2.2.2.2.2.1 v1.2.2.2.2.2.2.2.1 (Tq.mk v1.2.2.2.2.1 v1.2.2.1 v1.2.2.2.1 v1.2.2.2.2.2.1 v1.2.2.2.2.2.2.1) v1.2.2.2.2.2.2.2.2.2.1 v1.2.2.2.2.2.2.2.2.2.2.1) (addI .i64 v1.2.2.2.2.2.2.2.2.2.2.2.2.1 64))).bind fun r6 =>
   ((loopF (gf.loop6 r6 v1) 0).bind fun f => flC f fun (_v6 : Unit) =>
    some (leqI v1.2.1 v1.1)
   )
  )
 )
end Go.Proofs
