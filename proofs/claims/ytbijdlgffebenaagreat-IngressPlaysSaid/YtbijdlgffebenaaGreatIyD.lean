/- What these functions compute, as plain functions. No condition. -/
import Derived.Test.YtbijdlgffebenaaGreatTs
import Derived.Test.YtbijdlgffebenaaGreatM05
import Derived.Test.YtbijdlgffebenaaGreatM09
import Derived.Test.YtbijdlgffebenaaGreatM07
import Derived.Test.YtbijdlgffebenaaGreatM01
namespace Go.Proofs
open Go.Ab
noncomputable def gf.loop1 (x6 : List Tp) (r4 : List Tb) (_s1 : Unit) : Option (Fl Unit (Fl Unit Bool)) :=
 bif (pickB (ltI 0 (lenL x6)) (ltI 0 120) false) then (
  need (InB 0 (lenL x6)) <|
  ((
   bif (eqI ((nthI x6 0).fY) 1) then (
    ((gaM ((nthI x6 0).fS) 20)).bind fun r5 =>
    ((
     bif (pickB (eqS ((nthI x6 0).fS) ⟨#[]⟩) (ltI 0 (lenL r4)) false) then (
      need (NonZ (lenL r4)) <|
      need (NonZ (lenL r4)) <|
      need (InB (remI (addI .i64 (remI ((nthI x6 0).fN) (lenL r4)) (lenL r4)) (lenL r4)) (lenL r4)) <|
      some (.go (nthI r4 (remI (addI .i64 (remI ((nthI x6 0).fN) (lenL r4)) (lenL r4)) (lenL r4))))
     ) else (
      some (.go (Tb.mk true 0 (cvtI .u16 ((nthI x6 0).fN)) 9 7 [] false 0 ⟨#[]⟩ r5 0))
     )
     : Option (Fl Tb (Fl Unit (Fl Unit (Fl Unit Bool))))).bind fun f => flC f fun (_v4 : Tb) =>
     none
    )
   ) else (
    bif (eqI ((nthI x6 0).fY) 2) then (
     none
    ) else (
     some (.go ())
    )
   )
   : Option (Fl Unit (Fl Unit (Fl Unit Bool)))).bind fun f => flC f fun (_v3 : Unit) =>
   none
  )
 ) else (
  some (.out (.go ()))
 )

noncomputable def gf.loop9 (r12 : List Int) (r13 : List Int) (s9 : Int) : Option (Fl Int (Fl Unit (Fl (Int × (List (Int × Ta)) × Tt × Bool × Int × Int × Tn × (List (Int × Tb)) × Tx × Tw × Int × Int × Td) (Fl (Int × Int × (List (Int × Ta)) × Tt × Bool × Int × Int × Tn × (List (Int × Tb)) × Tx × Tw × Int × Int × Td) (Fl ((List (Int × Ta)) × Tt × Bool × Int × Int × Tn × (List (Int × Tb)) × Tx × Tw × Int × Int × Td) Bool))))) :=
 bif (ltI s9 (lenL r13)) then (
  need (InB s9 (lenL r12)) <|
  need (InB s9 (lenL r13)) <|
  bif (neI (nthI r12 s9) (cvtI .u16 (nthI r13 s9))) then (
   some (.out (.out (.out (.out (.out false)))))
  ) else (
   some (.go (addI .i64 s9 1))
  )
 ) else (
  some (.out (.go ()))
 )

noncomputable def gf.loop5 (x6 : List Tp) (r4 : List Tb) (s5 : Int × Int × (List (Int × Ta)) × Tt × Bool × Int × Int × Tn × (List (Int × Tb)) × Tx × Tw × Int × Int × Td) : Option (Fl (Int × Int × (List (Int × Ta)) × Tt × Bool × Int × Int × Tn × (List (Int × Tb)) × Tx × Tw × Int × Int × Td) (Fl ((List (Int × Ta)) × Tt × Bool × Int × Int × Tn × (List (Int × Tb)) × Tx × Tw × Int × Int × Td) Bool)) :=
 bif (pickB (ltI s5.1 (lenL x6)) (ltI s5.1 120) false) then (
  ((
   need (InB s5.1 (lenL x6)) <|
   ((
    bif (eqI ((nthI x6 s5.1).fY) 1) then (
     ((gaM ((nthI x6 s5.1).fS) 20)).bind fun r5 =>
     ((
      bif (pickB (eqS ((nthI x6 s5.1).fS) ⟨#[]⟩) (ltI 0 (lenL r4)) false) then (
       need (NonZ (lenL r4)) <|
       need (NonZ (lenL r4)) <|
       need (InB (remI (addI .i64 (remI ((nthI x6 s5.1).fN) (lenL r4)) (lenL r4)) (lenL r4)) (lenL r4)) <|
       some (.go (nthI r4 (remI (addI .i64 (remI ((nthI x6 s5.1).fN) (lenL r4)) (lenL r4)) (lenL r4))))
      ) else (
       some (.go (Tb.mk true 0 (cvtI .u16 ((nthI x6 s5.1).fN)) 9 7 [] false 0 ⟨#[]⟩ r5 0))
      )
      : Option (Fl Tb (Fl ((List (Int × Ta)) × Tt × Bool × Int × Int × Tn × (List (Int × Tb)) × Tx × Tw × Int × Int × Td × Int) (Fl (Int × (List (Int × Ta)) × Tt × Bool × Int × Int × Tn × (List (Int × Tb)) × Tx × Tw × Int × Int × Td) (Fl (Int × Int × (List (Int × Ta)) × Tt × Bool × Int × Int × Tn × (List (Int × Tb)) × Tx × Tw × Int × Int × Td) (Fl ((List (Int × Ta)) × Tt × Bool × Int × Int × Tn × (List (Int × Tb)) × Tx × Tw × Int × Int × Td) Bool)))))).bind fun f => flC f fun (v8 : Tb) =>
      ((gr (Tf.mk (Th.mk s5.2.2.2.1 s5.2.2.2.2.1 s5.2.2.2.2.2.1 s5.2.2.1 s5.2.2.2.2.2.2.1) s5.2.2.2.2.2.2.2.1 s5.2.2.2.2.2.2.2.2.2.1 s5.2.2.2.2.2.2.2.2.2.2.1 s5.2.2.2.2.2.2.2.2.1 s5.2.2.2.2.2.2.2.2.2.2.2.1 s5.2.2.2.2.2.2.2.2.2.2.2.2.1) v8 s5.2.1)).bind fun r6 =>
      ((gaN s5.2.2.2.2.2.2.2.2.2.2.2.2.2 v8 s5.2.1)).bind fun r7 =>
      need (Under (neI r6.2.1 r7.2.2) false ((gD r6.1 r7.2.1).isSome = true)) <|
      bif (pickB (neI r6.2.1 r7.2.2) true (neI ((gD r6.1 r7.2.1).getD dflt) 0)) then (
       some (.out (.out (.out (.out false))))
      ) else (
       some (.go (r6.2.2.fa.fOf, r6.2.2.fa.fb, r6.2.2.fa.fd, r6.2.2.fa.fg, r6.2.2.fa.fe, r6.2.2.fc, r6.2.2.fOf, r6.2.2.ff, r6.2.2.fh, r6.2.2.fq, r6.2.2.fo, r7.1, s5.2.1))
      )
     )
    ) else (
     bif (eqI ((nthI x6 s5.1).fY) 2) then (
      ((gL (Tf.mk (Th.mk s5.2.2.2.1 s5.2.2.2.2.1 s5.2.2.2.2.2.1 s5.2.2.1 s5.2.2.2.2.2.2.1) s5.2.2.2.2.2.2.2.1 s5.2.2.2.2.2.2.2.2.2.1 s5.2.2.2.2.2.2.2.2.2.2.1 s5.2.2.2.2.2.2.2.2.1 s5.2.2.2.2.2.2.2.2.2.2.2.1 s5.2.2.2.2.2.2.2.2.2.2.2.2.1) (addI .i64 s5.2.1 (bitsOp .and .i64 ((nthI x6 s5.1).fN) 31)))).bind fun r8 =>
      ((gaD s5.2.2.2.2.2.2.2.2.2.2.2.2.2 (addI .i64 s5.2.1 (bitsOp .and .i64 ((nthI x6 s5.1).fN) 31)))).bind fun r9 =>
      ((gD r8.1 r9.2)).bind fun r10 =>
      bif (neI r10 0) then (
       some (.out (.out (.out (.out false))))
      ) else (
       some (.go (r8.2.fa.fOf, r8.2.fa.fb, r8.2.fa.fd, r8.2.fa.fg, r8.2.fa.fe, r8.2.fc, r8.2.fOf, r8.2.ff, r8.2.fh, r8.2.fq, r8.2.fo, r9.1, (addI .i64 s5.2.1 (bitsOp .and .i64 ((nthI x6 s5.1).fN) 31))))
      )
     ) else (
      some (.go (s5.2.2.1, s5.2.2.2.1, s5.2.2.2.2.1, s5.2.2.2.2.2.1, s5.2.2.2.2.2.2.1, s5.2.2.2.2.2.2.2.1, s5.2.2.2.2.2.2.2.2.1, s5.2.2.2.2.2.2.2.2.2.1, s5.2.2.2.2.2.2.2.2.2.2.1, s5.2.2.2.2.2.2.2.2.2.2.2.1, s5.2.2.2.2.2.2.2.2.2.2.2.2.1, s5.2.2.2.2.2.2.2.2.2.2.2.2.2, s5.2.1))
     )
    )
    : Option (Fl ((List (Int × Ta)) × Tt × Bool × Int × Int × Tn × (List (Int × Tb)) × Tx × Tw × Int × Int × Td × Int) (Fl (Int × (List (Int × Ta)) × Tt × Bool × Int × Int × Tn × (List (Int × Tb)) × Tx × Tw × Int × Int × Td) (Fl (Int × Int × (List (Int × Ta)) × Tt × Bool × Int × Int × Tn × (List (Int × Tb)) × Tx × Tw × Int × Int × Td) (Fl ((List (Int × Ta)) × Tt × Bool × Int × Int × Tn × (List (Int × Tb)) × Tx × Tw × Int × Int × Td) Bool))))).bind fun f => flC f fun (v7 : (List (Int × Ta)) × Tt × Bool × Int × Int × Tn × (List (Int × Tb)) × Tx × Tw × Int × Int × Td × Int) =>
    ((gC (Tf.mk (Th.mk v7.2.1 v7.2.2.1 v7.2.2.2.1 v7.1 v7.2.2.2.2.1) v7.2.2.2.2.2.1 v7.2.2.2.2.2.2.2.1 v7.2.2.2.2.2.2.2.2.1 v7.2.2.2.2.2.2.1 v7.2.2.2.2.2.2.2.2.2.1 v7.2.2.2.2.2.2.2.2.2.2.1))).bind fun r11 =>
    ((gj (Tf.mk (Th.mk v7.2.1 v7.2.2.1 v7.2.2.2.1 v7.1 v7.2.2.2.2.1) v7.2.2.2.2.2.1 v7.2.2.2.2.2.2.2.1 v7.2.2.2.2.2.2.2.2.1 v7.2.2.2.2.2.2.1 v7.2.2.2.2.2.2.2.2.2.1 v7.2.2.2.2.2.2.2.2.2.2.1) 5)).bind fun r12 =>
    ((gh v7.2.2.2.2.2.2.2.2.2.2.2.1.fm 5)).bind fun r13 =>
    ((gv (Tf.mk (Th.mk v7.2.1 v7.2.2.1 v7.2.2.2.1 v7.1 v7.2.2.2.2.1) v7.2.2.2.2.2.1 v7.2.2.2.2.2.2.2.1 v7.2.2.2.2.2.2.2.2.1 v7.2.2.2.2.2.2.1 v7.2.2.2.2.2.2.2.2.2.1 v7.2.2.2.2.2.2.2.2.2.2.1))).bind fun r14 =>
    need (Under (pickB (pickB (neI r14 v7.2.2.2.2.2.2.2.2.2.2.2.1.fq) true (neI r11.1 v7.2.2.2.2.2.2.2.2.2.2.2.1.fc.fy)) true (neI r11.2 v7.2.2.2.2.2.2.2.2.2.2.2.1.fc.fe)) false ((gu (Tf.mk (Th.mk v7.2.1 v7.2.2.1 v7.2.2.2.1 v7.1 v7.2.2.2.2.1) v7.2.2.2.2.2.1 v7.2.2.2.2.2.2.2.1 v7.2.2.2.2.2.2.2.2.1 v7.2.2.2.2.2.2.1 v7.2.2.2.2.2.2.2.2.2.1 v7.2.2.2.2.2.2.2.2.2.2.1)).isSome = true)) <|
    need (Under (pickB (pickB (pickB (neI r14 v7.2.2.2.2.2.2.2.2.2.2.2.1.fq) true (neI r11.1 v7.2.2.2.2.2.2.2.2.2.2.2.1.fc.fy)) true (neI r11.2 v7.2.2.2.2.2.2.2.2.2.2.2.1.fc.fe)) true (neI ((gu (Tf.mk (Th.mk v7.2.1 v7.2.2.1 v7.2.2.2.1 v7.1 v7.2.2.2.2.1) v7.2.2.2.2.2.1 v7.2.2.2.2.2.2.2.1 v7.2.2.2.2.2.2.2.2.1 v7.2.2.2.2.2.2.1 v7.2.2.2.2.2.2.2.2.2.1 v7.2.2.2.2.2.2.2.2.2.2.1)).getD dflt) v7.2.2.2.2.2.2.2.2.2.2.2.1.fo)) false ((gA (Th.mk v7.2.1 v7.2.2.1 v7.2.2.2.1 v7.1 v7.2.2.2.2.1)).isSome = true)) <|
    bif (pickB (pickB (pickB (pickB (pickB (neI r14 v7.2.2.2.2.2.2.2.2.2.2.2.1.fq) true (neI r11.1 v7.2.2.2.2.2.2.2.2.2.2.2.1.fc.fy)) true (neI r11.2 v7.2.2.2.2.2.2.2.2.2.2.2.1.fc.fe)) true (neI ((gu (Tf.mk (Th.mk v7.2.1 v7.2.2.1 v7.2.2.2.1 v7.1 v7.2.2.2.2.1) v7.2.2.2.2.2.1 v7.2.2.2.2.2.2.2.1 v7.2.2.2.2.2.2.2.2.1 v7.2.2.2.2.2.2.1 v7.2.2.2.2.2.2.2.2.2.1 v7.2.2.2.2.2.2.2.2.2.2.1)).getD dflt) v7.2.2.2.2.2.2.2.2.2.2.2.1.fo)) true (neI ((gA (Th.mk v7.2.1 v7.2.2.1 v7.2.2.2.1 v7.1 v7.2.2.2.2.1)).getD dflt) (lenL v7.2.2.2.2.2.2.2.2.2.2.2.1.fm.fL))) true (neI (lenL r12) (lenL r13))) then (
     some (.out (.out (.out false)))
    ) else (
     ((loopF (gf.loop9 r12 r13) 0).bind fun f => flC f fun (_v9 : Unit) =>
      some (.go (v7.2.2.2.2.2.2.2.2.2.2.2.2, v7.1, v7.2.1, v7.2.2.1, v7.2.2.2.1, v7.2.2.2.2.1, v7.2.2.2.2.2.1, v7.2.2.2.2.2.2.1, v7.2.2.2.2.2.2.2.1, v7.2.2.2.2.2.2.2.2.1, v7.2.2.2.2.2.2.2.2.2.1, v7.2.2.2.2.2.2.2.2.2.2.1, v7.2.2.2.2.2.2.2.2.2.2.2.1))
     )
    )
   )
   : Option (Fl (Int × (List (Int × Ta)) × Tt × Bool × Int × Int × Tn × (List (Int × Tb)) × Tx × Tw × Int × Int × Td) (Fl (Int × Int × (List (Int × Ta)) × Tt × Bool × Int × Int × Tn × (List (Int × Tb)) × Tx × Tw × Int × Int × Td) (Fl ((List (Int × Ta)) × Tt × Bool × Int × Int × Tn × (List (Int × Tb)) × Tx × Tw × Int × Int × Td) Bool)))).bind fun f => flC f fun (v6 : Int × (List (Int × Ta)) × Tt × Bool × Int × Int × Tn × (List (Int × Tb)) × Tx × Tw × Int × Int × Td) =>
   some (.go ((addI .i64 s5.1 1), v6.1, v6.2.1, v6.2.2.1, v6.2.2.2.1, v6.2.2.2.2.1, v6.2.2.2.2.2.1, v6.2.2.2.2.2.2.1, v6.2.2.2.2.2.2.2.1, v6.2.2.2.2.2.2.2.2.1, v6.2.2.2.2.2.2.2.2.2.1, v6.2.2.2.2.2.2.2.2.2.2.1, v6.2.2.2.2.2.2.2.2.2.2.2.1, v6.2.2.2.2.2.2.2.2.2.2.2.2))
  )
 ) else (
  some (.out (.go (s5.2.2.1, s5.2.2.2.1, s5.2.2.2.2.1, s5.2.2.2.2.2.1, s5.2.2.2.2.2.2.1, s5.2.2.2.2.2.2.2.1, s5.2.2.2.2.2.2.2.2.1, s5.2.2.2.2.2.2.2.2.2.1, s5.2.2.2.2.2.2.2.2.2.2.1, s5.2.2.2.2.2.2.2.2.2.2.2.1, s5.2.2.2.2.2.2.2.2.2.2.2.2.1, s5.2.2.2.2.2.2.2.2.2.2.2.2.2)))
 )

noncomputable def gf (x0 : Bool) (x1 : Int) (x2 : Int) (x3 : Int) (x4 : Int) (x5 : List Int) (x6 : List Tp) : Option Bool :=
 (gaE).bind fun r1 =>
 bif (notB r1) then (
  some false
 ) else (
  ((gam x0 x1 x2 x3)).bind fun r2 =>
  ((gat r2)).bind fun r3 =>
  optC r3.1 (
   bif (notB r3.2.2) then (
    some false
   ) else (
    ((gn x4 x5)).bind fun r4 =>
    ((loopF (gf.loop1 x6 r4) ()).bind fun f => flC f fun (_v1 : Unit) =>
     some true
    )
   )
  ) fun o1 => (
   bif (notB r3.2.2) then (
    some false
   ) else (
    ((gn x4 x5)).bind fun r4 =>
    ((loopF (gf.loop5 x6 r4) (0, 0, o1.fa.fOf, o1.fa.fb, o1.fa.fd, o1.fa.fg, o1.fa.fe, o1.fc, o1.fOf, o1.ff, o1.fh, o1.fq, o1.fo, r3.2.1)).bind fun f => flC f fun (_v5 : (List (Int × Ta)) × Tt × Bool × Int × Int × Tn × (List (Int × Tb)) × Tx × Tw × Int × Int × Td) =>
     some true
    )
   )
  )
 )
end Go.Proofs
