/- What these functions compute, as plain functions. No condition. -/
import Derived.Test.YtnoeflijefijcaaTs
import Derived.Test.YtnoeflijefijcaaM04
namespace Go.Proofs
open Go.Ab
noncomputable def gc.loop3 (s1 : Int × Int × Int × Int × (List (Int × Int)) × (List (Int × Int)) × Int × Int × Bool × (List (Int × Td)) × Tl × Int × Int × Tb × Int × Int) (s3 : Int × Int × (List (Int × Int)) × (List (Int × Int))) : Option (Fl (Int × Int × (List (Int × Int)) × (List (Int × Int))) (Fl (Int × (List (Int × Int)) × (List (Int × Int))) (Fl (Int × Int × Int × (List (Int × Int)) × (List (Int × Int)) × Int × Int × Bool × (List (Int × Td)) × Tl × Int × Int × Tb × Int × Int) (Fl (Int × Int × Int × Int × (List (Int × Int)) × (List (Int × Int)) × Int × Int × Bool × (List (Int × Td)) × Tl × Int × Int × Tb × Int × Int) (Fl ((List (Int × Int)) × (List (Int × Int)) × Int × Int × Bool × (List (Int × Td)) × Tl × Int × Int × Tb × Int × Int) Bool))))) :=
 bif (ltI s3.1 (lenL s1.2.2.2.2.2.2.2.2.2.2.2.2.2.1.fL)) then (
  need (InB s3.1 (lenL s1.2.2.2.2.2.2.2.2.2.2.2.2.2.1.fL)) <|
  bif (nthI s1.2.2.2.2.2.2.2.2.2.2.2.2.2.1.fL s3.1).fq then (
   some (.go ((addI .i64 s3.1 1), (addI .i64 s3.2.1 (lenL ((nthI s1.2.2.2.2.2.2.2.2.2.2.2.2.2.1.fL s3.1).fQ.fL))), (setM eqI ((nthI s1.2.2.2.2.2.2.2.2.2.2.2.2.2.1.fL s3.1).fId) (lenL ((nthI s1.2.2.2.2.2.2.2.2.2.2.2.2.2.1.fL s3.1).fQ.fL)) s3.2.2.1), s3.2.2.2))
  ) else (
   some (.go ((addI .i64 s3.1 1), s3.2.1, (setM eqI ((nthI s1.2.2.2.2.2.2.2.2.2.2.2.2.2.1.fL s3.1).fId) (lenL ((nthI s1.2.2.2.2.2.2.2.2.2.2.2.2.2.1.fL s3.1).fQ.fL)) s3.2.2.1), (setM eqI ((nthI s1.2.2.2.2.2.2.2.2.2.2.2.2.2.1.fL s3.1).fId) 1 s3.2.2.2)))
  )
 ) else (
  some (.out (.go (s3.2.1, s3.2.2.1, s3.2.2.2)))
 )

noncomputable def gc.loop5 (r4 : Ts × List Tc × Bool) (v3 : Int × (List (Int × Int)) × (List (Int × Int))) (s5 : Int × Int × Int × Int) : Option (Fl (Int × Int × Int × Int) (Fl (Int × Int) (Fl (Int × Int × Int × (List (Int × Int)) × (List (Int × Int)) × Int × Int × Bool × (List (Int × Td)) × Tl × Int × Int × Tb × Int × Int) (Fl (Int × Int × Int × Int × (List (Int × Int)) × (List (Int × Int)) × Int × Int × Bool × (List (Int × Td)) × Tl × Int × Int × Tb × Int × Int) (Fl ((List (Int × Int)) × (List (Int × Int)) × Int × Int × Bool × (List (Int × Td)) × Tl × Int × Int × Tb × Int × Int) Bool))))) :=
 bif (ltI s5.1 (lenL r4.2.1)) then (
  need (InB s5.1 (lenL r4.2.1)) <|
  bif (eqI (getM eqI ((nthI r4.2.1 s5.1).fId) 0 v3.2.2) 0) then (
   some (.go ((addI .i64 s5.1 1), (subI .i64 s5.2.1 1), (addI .i64 s5.2.2.1 ((nthI r4.2.1 s5.1).fC.fm)), 0))
  ) else (
   bif (pickB (ltI 0 s5.2.1) (ltI r4.1.fX.fp (addI .i64 s5.2.2.2 1)) false) then (
    some (.out (.out (.out (.out (.out false)))))
   ) else (
    some (.go ((addI .i64 s5.1 1), s5.2.1, (addI .i64 s5.2.2.1 ((nthI r4.2.1 s5.1).fC.fm)), (addI .i64 s5.2.2.2 1)))
   )
  )
 ) else (
  some (.out (.go (s5.2.2.1, s5.2.2.2)))
 )

noncomputable def gc.loop1 (x2 : List Th) (s1 : Int × Int × Int × Int × (List (Int × Int)) × (List (Int × Int)) × Int × Int × Bool × (List (Int × Td)) × Tl × Int × Int × Tb × Int × Int) : Option (Fl (Int × Int × Int × Int × (List (Int × Int)) × (List (Int × Int)) × Int × Int × Bool × (List (Int × Td)) × Tl × Int × Int × Tb × Int × Int) (Fl ((List (Int × Int)) × (List (Int × Int)) × Int × Int × Bool × (List (Int × Td)) × Tl × Int × Int × Tb × Int × Int) Bool)) :=
 bif (pickB (ltI s1.1 (lenL x2)) (ltI s1.1 120) false) then (
  ((
   ((loopF (gc.loop3 s1) (0, 0, [], [])).bind fun f => flC f fun (v3 : Int × (List (Int × Int)) × (List (Int × Int))) =>
    need (InB s1.1 (lenL x2)) <|
    ((gy (Ts.mk (Tg.mk s1.2.2.2.2.2.2.2.2.2.2.1 s1.2.2.2.2.2.2.2.2.2.1 (Tq.mk s1.2.2.2.2.2.2.1 s1.2.2.2.2.1 s1.2.2.2.2.2.1 s1.2.2.2.2.2.2.2.1 s1.2.2.2.2.2.2.2.2.1) s1.2.2.2.2.2.2.2.2.2.2.2.1 s1.2.2.2.2.2.2.2.2.2.2.2.2.1) s1.2.2.2.2.2.2.2.2.2.2.2.2.2.1 s1.2.2.2.2.2.2.2.2.2.2.2.2.2.2.1 s1.2.2.2.2.2.2.2.2.2.2.2.2.2.2.2) (nthI x2 s1.1))).bind fun r4 =>
    bif (notB r4.2.2) then (
     some (.out (.out (.out false)))
    ) else (
     ((
      need (InB s1.1 (lenL x2)) <|
      bif (eqI ((nthI x2 s1.1).fw) 2) then (
       need (InB s1.1 (lenL x2)) <|
       some (.go (minI (addI .i64 s1.2.1 (minI (maxI ((nthI x2 s1.1).fN) 0) 1099511627776)) 1125899906842624))
      ) else (
       some (.go s1.2.1)
      )
      : Option (Fl Int (Fl (Int × Int × Int × (List (Int × Int)) × (List (Int × Int)) × Int × Int × Bool × (List (Int × Td)) × Tl × Int × Int × Tb × Int × Int) (Fl (Int × Int × Int × Int × (List (Int × Int)) × (List (Int × Int)) × Int × Int × Bool × (List (Int × Td)) × Tl × Int × Int × Tb × Int × Int) (Fl ((List (Int × Int)) × (List (Int × Int)) × Int × Int × Bool × (List (Int × Td)) × Tl × Int × Int × Tb × Int × Int) Bool))))).bind fun f => flC f fun (v4 : Int) =>
      ((loopF (gc.loop5 r4 v3) (0, v3.1, s1.2.2.1, s1.2.2.2.1)).bind fun f => flC f fun (v5 : Int × Int) =>
       bif (ltI v4 v5.1) then (
        some (.out (.out (.out false)))
       ) else (
        some (.go (v4, v5.1, v5.2, r4.1.fO.fa.fj, r4.1.fO.fa.fk, r4.1.fO.fa.fb, r4.1.fO.fa.fAt, r4.1.fO.fa.ff, r4.1.fO.fg, r4.1.fO.fe, r4.1.fO.fc, r4.1.fO.fd, r4.1.fX, r4.1.fB, r4.1.fN))
       )
      )
     )
    )
   )
   : Option (Fl (Int × Int × Int × (List (Int × Int)) × (List (Int × Int)) × Int × Int × Bool × (List (Int × Td)) × Tl × Int × Int × Tb × Int × Int) (Fl (Int × Int × Int × Int × (List (Int × Int)) × (List (Int × Int)) × Int × Int × Bool × (List (Int × Td)) × Tl × Int × Int × Tb × Int × Int) (Fl ((List (Int × Int)) × (List (Int × Int)) × Int × Int × Bool × (List (Int × Td)) × Tl × Int × Int × Tb × Int × Int) Bool)))).bind fun f => flC f fun (v2 : Int × Int × Int × (List (Int × Int)) × (List (Int × Int)) × Int × Int × Bool × (List (Int × Td)) × Tl × Int × Int × Tb × Int × Int) =>
   some (.go ((addI .i64 s1.1 1), v2.1, v2.2.1, v2.2.2.1, v2.2.2.2.1, v2.2.2.2.2.1, v2.2.2.2.2.2.1, v2.2.2.2.2.2.2.1, v2.2.2.2.2.2.2.2.1, v2.2.2.2.2.2.2.2.2.1, v2.2.2.2.2.2.2.2.2.2.1, v2.2.2.2.2.2.2.2.2.2.2.1, v2.2.2.2.2.2.2.2.2.2.2.2.1, v2.2.2.2.2.2.2.2.2.2.2.2.2.1, v2.2.2.2.2.2.2.2.2.2.2.2.2.2.1, v2.2.2.2.2.2.2.2.2.2.2.2.2.2.2))
  )
 ) else (
  some (.out (.go (s1.2.2.2.2.1, s1.2.2.2.2.2.1, s1.2.2.2.2.2.2.1, s1.2.2.2.2.2.2.2.1, s1.2.2.2.2.2.2.2.2.1, s1.2.2.2.2.2.2.2.2.2.1, s1.2.2.2.2.2.2.2.2.2.2.1, s1.2.2.2.2.2.2.2.2.2.2.2.1, s1.2.2.2.2.2.2.2.2.2.2.2.2.1, s1.2.2.2.2.2.2.2.2.2.2.2.2.2.1, s1.2.2.2.2.2.2.2.2.2.2.2.2.2.2.1, s1.2.2.2.2.2.2.2.2.2.2.2.2.2.2.2)))
 )

noncomputable def gc (x0 : Int) (x1 : Int) (x2 : List Th) : Option Bool :=
 ((gQ x0 x1)).bind fun r1 =>
 ((gan r1)).bind fun r2 =>
 (gE).bind fun r3 =>
 bif (pickB (notB r3) true (notB r2.2)) then (
  some false
 ) else (
  ((loopF (gc.loop1 x2) (0, 0, 0, 0, r2.1.fO.fa.fj, r2.1.fO.fa.fk, r2.1.fO.fa.fb, r2.1.fO.fa.fAt, r2.1.fO.fa.ff, r2.1.fO.fg, r2.1.fO.fe, r2.1.fO.fc, r2.1.fO.fd, r2.1.fX, r2.1.fB, r2.1.fN)).bind fun f => flC f fun (_v1 : (List (Int × Int)) × (List (Int × Int)) × Int × Int × Bool × (List (Int × Td)) × Tl × Int × Int × Tb × Int × Int) =>
   some true
  )
 )
end Go.Proofs
