/- What these functions compute, as plain functions. No condition. -/
import Derived.Test.YtoiieebljbhpbaaGreatDoorTs
import Derived.Test.YtoiieebljbhpbaaGreatDoorM15
import Derived.Test.YtoiieebljbhpbaaGreatDoorM11
import Derived.Test.YtoiieebljbhpbaaGreatDoorM07
import Derived.Test.YtoiieebljbhpbaaGreatDoorM06
section
namespace Go.Proofs
open Go.Ab
noncomputable def gaf.loop1 (x0 : Tl) (x1 : Int) (x2 : Int) (s1 : Int × List Tq) : Option (Fl (Int × List Tq) (Fl (List Tq) Tl)) :=
 bif (ltI s1.1 (lenL x0.fc)) then (
  need (InB s1.1 (lenL x0.fc)) <|
  bif (pickB (neI ((nthI x0.fc s1.1).fd) x1) true (neI ((nthI x0.fc s1.1).fN) x2)) then (
   need (AppB (lenL s1.2) 1 48) <|
   some (.go ((addI .i64 s1.1 1), (appL s1.2 [(nthI x0.fc s1.1)])))
  ) else (
    some (.go ((addI .i64 s1.1 1), s1.2))
  )
 ) else (
   some (.out (.go s1.2))
 )

noncomputable def gaf.loop2 (x0 : Tl) (x1 : Int) (x2 : Int) (s2 : Int × List Tp) : Option (Fl (Int × List Tp) (Fl (List Tp) Tl)) :=
 bif (ltI s2.1 (lenL x0.ff)) then (
  need (InB s2.1 (lenL x0.ff)) <|
  bif (pickB (neI ((nthI x0.ff s2.1).fd) x1) true (neI ((nthI x0.ff s2.1).fN) x2)) then (
   need (AppB (lenL s2.2) 1 40) <|
   some (.go ((addI .i64 s2.1 1), (appL s2.2 [(nthI x0.ff s2.1)])))
  ) else (
    some (.go ((addI .i64 s2.1 1), s2.2))
  )
 ) else (
   some (.out (.go s2.2))
 )

noncomputable def gaf (x0 : Tl) (x1 : Int) (x2 : Int) : Option Tl :=
 ((loopF (gaf.loop1 x0 x1 x2) (0, [])).bind fun f => flC f fun (v1 : List Tq) =>
   ((loopF (gaf.loop2 x0 x1 x2) (0, [])).bind fun f => flC f fun (v2 : List Tp) =>
     some (Tl.mk x0.fT v1 v2)
   )
 )

noncomputable def gai.loop1 (x1 : Int) (s1 : Int × Tl) : Option (Fl (Int × Tl) (Fl Tl Tl)) :=
 bif (ltI s1.1 4) then (
  ((gaf s1.2 x1 s1.1)).bind fun r2 =>
  some (.go ((addI .i64 s1.1 1), r2))
 ) else (
   some (.out (.go s1.2))
 )

noncomputable def gai.loop2 (x1 : Int) (v1 : Tl) (s2 : Int × List Tp) : Option (Fl (Int × List Tp) (Fl (List Tp) Tl)) :=
 bif (ltI s2.1 (lenL v1.ff)) then (
  need (InB s2.1 (lenL v1.ff)) <|
  bif (neI ((nthI v1.ff s2.1).fu) x1) then (
   need (AppB (lenL s2.2) 1 40) <|
   some (.go ((addI .i64 s2.1 1), (appL s2.2 [(nthI v1.ff s2.1)])))
  ) else (
    some (.go ((addI .i64 s2.1 1), s2.2))
  )
 ) else (
   some (.out (.go s2.2))
 )

noncomputable def gai (x0 : Tl) (x1 : Int) : Option Tl :=
 ((gau x0.fT x1)).bind fun r1 =>
 ((loopF (gai.loop1 x1) (0, (Tl.mk (Tn.mk r1.1.fL r1.1.fj) x0.fc x0.ff))).bind fun f => flC f fun (v1 : Tl) =>
   ((loopF (gai.loop2 x1 v1) (0, [])).bind fun f => flC f fun (v2 : List Tp) =>
     some (Tl.mk v1.fT v1.fc v2)
   )
 )

noncomputable def gac.loop1 (x0 : Tl) (x1 : Int) (x2 : Int) (s1 : Int) : Option (Fl Int (Fl Unit Int)) :=
 bif (ltI s1 (lenL x0.fc)) then (
  need (InB s1 (lenL x0.fc)) <|
  bif (pickB (eqI ((nthI x0.fc s1).fd) x1) (eqI ((nthI x0.fc s1).fN) x2) false) then (
   some (.out (.out s1))
  ) else (
    some (.go (addI .i64 s1 1))
  )
 ) else (
   some (.out (.go ()))
 )

noncomputable def gac (x0 : Tl) (x1 : Int) (x2 : Int) : Option Int :=
 ((loopF (gac.loop1 x0 x1 x2) 0).bind fun f => flC f fun (_v1 : Unit) =>
   some (-1)
 )

noncomputable def gaa.loop2 (x0 : Tl) (x1 : Int) (s1 : Int) (s2 : Int) : Option (Fl Int (Fl Unit (Fl Int (Fl Unit (Int × Int))))) :=
 bif (ltI s2 (lenL ((nthI x0.fc s1).fa))) then (
  need (InB s2 (lenL ((nthI x0.fc s1).fa))) <|
  bif (eqI (nthI ((nthI x0.fc s1).fa) s2) x1) then (
   some (.out (.out (.out (.out (s1, s2)))))
  ) else (
    some (.go (addI .i64 s2 1))
  )
 ) else (
   some (.out (.go ()))
 )

noncomputable def gaa.loop1 (x0 : Tl) (x1 : Int) (s1 : Int) : Option (Fl Int (Fl Unit (Int × Int))) :=
 bif (ltI s1 (lenL x0.fc)) then (
  need (InB s1 (lenL x0.fc)) <|
  ((loopF (gaa.loop2 x0 x1 s1) 0).bind fun f => flC f fun (_v2 : Unit) =>
    some (.go (addI .i64 s1 1))
  )
 ) else (
   some (.out (.go ()))
 )

noncomputable def gaa (x0 : Tl) (x1 : Int) : Option (Int × Int) :=
 ((loopF (gaa.loop1 x0 x1) 0).bind fun f => flC f fun (_v1 : Unit) =>
   some ((-1), 0)
 )

noncomputable def gas.loop1 (x0 : Tl) (x1 : Td) (s1 : Int) : Option (Fl Int (Fl Unit (Tl × Int))) :=
 bif (ltI s1 (lenL x1.fa)) then (
  need (InB s1 (lenL x1.fa)) <|
  ((gaa x0 (nthI x1.fa s1))).bind fun r2 =>
  bif (leqI 0 r2.1) then (
   some (.out (.out (x0, 16)))
  ) else (
    some (.go (addI .i64 s1 1))
  )
 ) else (
   some (.out (.go ()))
 )

noncomputable def gas (x0 : Tl) (x1 : Td) : Option (Tl × Int) :=
 ((gac x0 x1.fd x1.fh)).bind fun r1 =>
 bif (leqI 0 r1) then (
  some (x0, 10)
 ) else (
   ((loopF (gas.loop1 x0 x1) 0).bind fun f => flC f fun (_v1 : Unit) =>
     need (AppB 0 (lenL x0.fc) 48) <|
     need (AppB (lenL x0.fc) 1 48) <|
     some ((Tl.mk x0.fT (appL (appL [] x0.fc) [(Tq.mk x1.fd x1.fh x1.fq false x1.fa)]) x0.ff), 0)
   )
 )

noncomputable def gam.loop1 (x0 : Tl) (x1 : Int) (x2 : Int) (x3 : Int) (s1 : Int) : Option (Fl Int (Fl Unit Int)) :=
 bif (ltI s1 (lenL x0.ff)) then (
  need (InB s1 (lenL x0.ff)) <|
  bif (pickB (pickB (eqI ((nthI x0.ff s1).fu) x1) (eqI ((nthI x0.ff s1).fd) x2) false) (eqI ((nthI x0.ff s1).fN) x3) false) then (
   some (.out (.out s1))
  ) else (
    some (.go (addI .i64 s1 1))
  )
 ) else (
   some (.out (.go ()))
 )

noncomputable def gam (x0 : Tl) (x1 : Int) (x2 : Int) (x3 : Int) : Option Int :=
 ((loopF (gam.loop1 x0 x1 x2 x3) 0).bind fun f => flC f fun (_v1 : Unit) =>
   some (-1)
 )

noncomputable def gaF (x0 : Tp) (x1 : Tp) : Option Bool :=
 bif (neI x0.fu x1.fu) then (
  some (ltI x0.fu x1.fu)
 ) else (
   bif (neI x0.fd x1.fd) then (
    some (ltI x0.fd x1.fd)
   ) else (
     some (ltI x0.fN x1.fN)
   )
 )

noncomputable def gak.loop1 (x0 : List Tp) (x1 : Tp) (s1 : Int × Bool × List Tp) : Option (Fl (Int × Bool × List Tp) (Fl (Bool × List Tp) (List Tp))) :=
 bif (ltI s1.1 (lenL x0)) then (
  need (InB s1.1 (lenL x0)) <|
  ((
   need (Under (notB s1.2.1) true ((gaF x1 (nthI x0 s1.1)).isSome = true)) <|
   bif (pickB (notB s1.2.1) ((gaF x1 (nthI x0 s1.1)).getD dflt) false) then (
    need (AppB (lenL s1.2.2) 1 40) <|
    some (.go (true, (appL s1.2.2 [x1])))
   ) else (
     some (.go (s1.2.1, s1.2.2))
   )
   : Option (Fl (Bool × List Tp) (Fl (Int × Bool × List Tp) (Fl (Bool × List Tp) (List Tp))))).bind fun f => flC f fun (v2 : Bool × List Tp) =>
   need (AppB (lenL v2.2) 1 40) <|
   some (.go ((addI .i64 s1.1 1), v2.1, (appL v2.2 [(nthI x0 s1.1)])))
  )
 ) else (
   some (.out (.go (s1.2.1, s1.2.2)))
 )

noncomputable def gak (x0 : List Tp) (x1 : Tp) : Option (List Tp) :=
 ((loopF (gak.loop1 x0 x1) (0, false, [])).bind fun f => flC f fun (v1 : Bool × List Tp) =>
   ((
    bif (notB v1.1) then (
     need (AppB (lenL v1.2) 1 40) <|
     some (.go (appL v1.2 [x1]))
    ) else (
      some (.go v1.2)
    )
    : Option (Fl (List Tp) (List Tp))).bind fun f => flC f fun (v3 : List Tp) =>
    some v3
   )
 )

noncomputable def gan.loop1 (x0 : Tl) (x1 : Td) (s1 : Int × Int) : Option (Fl (Int × Int) (Fl Int (Tl × Int))) :=
 bif (ltI s1.1 (lenL x0.ff)) then (
  need (InB s1.1 (lenL x0.ff)) <|
  bif (eqI ((nthI x0.ff s1.1).fu) x1.fd) then (
   some (.go ((addI .i64 s1.1 1), (addI .i64 s1.2 1)))
  ) else (
    some (.go ((addI .i64 s1.1 1), s1.2))
  )
 ) else (
   some (.out (.go s1.2))
 )

noncomputable def gan (x0 : Tl) (x1 : Td) : Option (Tl × Int) :=
 bif (eqI x1.fOf x1.fd) then (
  some (x0, 15)
 ) else (
   ((gaD x0.fT x1.fd x1.fOf)).bind fun r1 =>
   bif (notB r1) then (
    some (x0, 7)
   ) else (
     ((gac x0 x1.fOf x1.fh)).bind fun r2 =>
     bif (ltI r2 0) then (
      some (x0, 9)
     ) else (
       ((gam x0 x1.fd x1.fOf x1.fh)).bind fun r3 =>
       bif (leqI 0 r3) then (
        need (AppB 0 (lenL x0.ff) 40) <|
        need (InB r3 (lenL x0.ff)) <|
        some ((Tl.mk x0.fT x0.fc (setI x0.ff r3 (Tp.mk ((nthI x0.ff r3).fu) ((nthI x0.ff r3).fd) ((nthI x0.ff r3).fN) x1.fo ((nthI x0.ff r3).fw)))), 0)
       ) else (
         ((loopF (gan.loop1 x0 x1) (0, 0)).bind fun f => flC f fun (v1 : Int) =>
           bif (leqI 16 v1) then (
            some (x0, 11)
           ) else (
             ((gak x0.ff (Tp.mk x1.fd x1.fOf x1.fh x1.fo false))).bind fun r4 =>
             some ((Tl.mk x0.fT x0.fc r4), 0)
           )
         )
       )
     )
   )
 )

noncomputable def gaI (x0 : Tl) (x1 : Td) : Option (Tl × Int) :=
 bif (pickB (eqI x1.fk 6) true (eqI x1.fk 8)) then (
  ((gam x0 x1.fd x1.fOf x1.fh)).bind fun r1 =>
  bif (ltI r1 0) then (
   some (x0, 12)
  ) else (
    need (AppB 0 (lenL x0.ff) 40) <|
    need (InB r1 (lenL x0.ff)) <|
    ((
     bif (eqI x1.fk 6) then (
      need (CutB 0 r1 (lenL x0.ff)) <|
      need (AppB 0 (lenL (cutL x0.ff 0 r1)) 40) <|
      need (CutB (addI .i64 r1 1) (lenL x0.ff) (lenL x0.ff)) <|
      need (AppB (lenL (cutL x0.ff 0 r1)) (lenL (cutL x0.ff (addI .i64 r1 1) (lenL x0.ff))) 40) <|
      some (.go (appL (appL [] (cutL x0.ff 0 r1)) (cutL x0.ff (addI .i64 r1 1) (lenL x0.ff))))
     ) else (
       some (.go (setI x0.ff r1 (Tp.mk ((nthI x0.ff r1).fu) ((nthI x0.ff r1).fd) ((nthI x0.ff r1).fN) ((nthI x0.ff r1).fo) x1.fOn)))
     )
     : Option (Fl (List Tp) (Tl × Int))).bind fun f => flC f fun (v1 : List Tp) =>
     some ((Tl.mk x0.fT x0.fc v1), 0)
    )
  )
 ) else (
   ((gac x0 x1.fd x1.fh)).bind fun r2 =>
   bif (ltI r2 0) then (
    some (x0, 9)
   ) else (
     bif (eqI x1.fk 4) then (
      ((gaf x0 x1.fd x1.fh)).bind fun r3 =>
      some (r3, 0)
     ) else (
       need (AppB 0 (lenL x0.fc) 48) <|
       need (InB r2 (lenL x0.fc)) <|
       some ((Tl.mk x0.fT (setI x0.fc r2 (Tq.mk ((nthI x0.fc r2).fd) ((nthI x0.fc r2).fN) ((nthI x0.fc r2).fq) x1.fOn ((nthI x0.fc r2).fa))) x0.ff), 0)
     )
   )
 )

noncomputable def gaK (x0 : Tl) (x1 : Td) : Option (Tl × Int × Int) :=
 ((gab x1)).bind fun r1 =>
 bif (neI r1 0) then (
  some (x0, 0, r1)
 ) else (
   bif (eqI x1.fk 1) then (
    ((gav x0.fT x1.fm x1.fp)).bind fun r2 =>
    some ((Tl.mk (Tn.mk r2.1.fL r2.1.fj) x0.fc x0.ff), r2.2.1, r2.2.2)
   ) else (
     ((gar x0.fT x1.fd)).bind fun r3 =>
     bif (notB r3.2) then (
      some (x0, 0, 8)
     ) else (
       bif (eqI x1.fk 2) then (
        ((gai x0 x1.fd)).bind fun r4 =>
        some (r4, 0, 0)
       ) else (
         bif (eqI x1.fk 3) then (
          ((gas x0 x1)).bind fun r5 =>
          some (r5.1, 0, r5.2)
         ) else (
           bif (eqI x1.fk 5) then (
            ((gan x0 x1)).bind fun r6 =>
            some (r6.1, 0, r6.2)
           ) else (
             ((gaI x0 x1)).bind fun r7 =>
             some (r7.1, 0, r7.2)
           )
         )
       )
     )
   )
 )
end Go.Proofs
end
section
namespace Go.Proofs
open Go.Ab
noncomputable def gl.loop2 (s1 : Int × (List (Int × Ta)) × Int × (List (Tc × Te)) × (List (Tb × Tg)) × (List (Int × Tf))) (s2 : Int × (List (Int × Ta)) × Int × (List (Tc × Te)) × (List (Tb × Tg)) × (List (Int × Tf))) : Option (Fl (Int × (List (Int × Ta)) × Int × (List (Tc × Te)) × (List (Tb × Tg)) × (List (Int × Tf))) (Fl ((List (Int × Ta)) × Int × (List (Tc × Te)) × (List (Tb × Tg)) × (List (Int × Tf))) (Fl (Int × (List (Int × Ta)) × Int × (List (Tc × Te)) × (List (Tb × Tg)) × (List (Int × Tf))) (Fl ((List (Int × Ta)) × Int × (List (Tc × Te)) × (List (Tb × Tg)) × (List (Int × Tf))) Bool)))) :=
 bif (ltI s2.1 4) then (
  ((gf (Th.mk (Tj.mk s2.2.1 s2.2.2.1) s2.2.2.2.1 s2.2.2.2.2.1 s2.2.2.2.2.2) (Td.mk 3 ⟨#[]⟩ ⟨#[]⟩ s1.1 0 s2.1 0 false false [(cvtI .u32 (addI .i64 (addI .i64 1000 (mulI .i64 10 s1.1)) s2.1))]))).bind fun r3 =>
  bif (neI r3.2.1 0) then (
   some (.out (.out (.out (.out false))))
  ) else (
    some (.go ((addI .i64 s2.1 1), r3.2.2.fb.fe, r3.2.2.fb.fj, r3.2.2.fc, r3.2.2.ff, r3.2.2.fg))
  )
 ) else (
   some (.out (.go (s2.2.1, s2.2.2.1, s2.2.2.2.1, s2.2.2.2.2.1, s2.2.2.2.2.2)))
 )

noncomputable def gl.loop1  (s1 : Int × (List (Int × Ta)) × Int × (List (Tc × Te)) × (List (Tb × Tg)) × (List (Int × Tf))) : Option (Fl (Int × (List (Int × Ta)) × Int × (List (Tc × Te)) × (List (Tb × Tg)) × (List (Int × Tf))) (Fl ((List (Int × Ta)) × Int × (List (Tc × Te)) × (List (Tb × Tg)) × (List (Int × Tf))) Bool)) :=
 bif (ltI s1.1 6) then (
  ((loopF (gl.loop2 s1) (1, s1.2.1, s1.2.2.1, s1.2.2.2.1, s1.2.2.2.2.1, s1.2.2.2.2.2)).bind fun f => flC f fun (v2 : (List (Int × Ta)) × Int × (List (Tc × Te)) × (List (Tb × Tg)) × (List (Int × Tf))) =>
    some (.go ((addI .i64 s1.1 1), v2.1, v2.2.1, v2.2.2.1, v2.2.2.2.1, v2.2.2.2.2))
  )
 ) else (
   some (.out (.go (s1.2.1, s1.2.2.1, s1.2.2.2.1, s1.2.2.2.2.1, s1.2.2.2.2.2)))
 )

noncomputable def gl.loop4 (s3 : Int × Int × (List (Int × Ta)) × Int × (List (Tc × Te)) × (List (Tb × Tg)) × (List (Int × Tf))) (s4 : Int × Int × (List (Int × Ta)) × Int × (List (Tc × Te)) × (List (Tb × Tg)) × (List (Int × Tf))) : Option (Fl (Int × Int × (List (Int × Ta)) × Int × (List (Tc × Te)) × (List (Tb × Tg)) × (List (Int × Tf))) (Fl (Int × (List (Int × Ta)) × Int × (List (Tc × Te)) × (List (Tb × Tg)) × (List (Int × Tf))) (Fl (Int × Int × (List (Int × Ta)) × Int × (List (Tc × Te)) × (List (Tb × Tg)) × (List (Int × Tf))) (Fl ((List (Int × Ta)) × Int × (List (Tc × Te)) × (List (Tb × Tg)) × (List (Int × Tf))) Bool)))) :=
 bif (ltI s4.1 4) then (
  ((gf (Th.mk (Tj.mk s4.2.2.1 s4.2.2.2.1) s4.2.2.2.2.1 s4.2.2.2.2.2.1 s4.2.2.2.2.2.2) (Td.mk 5 ⟨#[]⟩ ⟨#[]⟩ 0 s3.1 s4.1 0 false false []))).bind fun r4 =>
  bif (pickB (neB (eqI r4.2.1 0) (ltI s4.2.1 16)) true (pickB (neI r4.2.1 0) (neI r4.2.1 11) false)) then (
   some (.out (.out (.out (.out false))))
  ) else (
    some (.go ((addI .i64 s4.1 1), (addI .i64 s4.2.1 1), r4.2.2.fb.fe, r4.2.2.fb.fj, r4.2.2.fc, r4.2.2.ff, r4.2.2.fg))
  )
 ) else (
   some (.out (.go (s4.2.1, s4.2.2.1, s4.2.2.2.1, s4.2.2.2.2.1, s4.2.2.2.2.2.1, s4.2.2.2.2.2.2)))
 )

noncomputable def gl.loop3  (s3 : Int × Int × (List (Int × Ta)) × Int × (List (Tc × Te)) × (List (Tb × Tg)) × (List (Int × Tf))) : Option (Fl (Int × Int × (List (Int × Ta)) × Int × (List (Tc × Te)) × (List (Tb × Tg)) × (List (Int × Tf))) (Fl ((List (Int × Ta)) × Int × (List (Tc × Te)) × (List (Tb × Tg)) × (List (Int × Tf))) Bool)) :=
 bif (ltI s3.1 6) then (
  ((loopF (gl.loop4 s3) (0, s3.2.1, s3.2.2.1, s3.2.2.2.1, s3.2.2.2.2.1, s3.2.2.2.2.2.1, s3.2.2.2.2.2.2)).bind fun f => flC f fun (v4 : Int × (List (Int × Ta)) × Int × (List (Tc × Te)) × (List (Tb × Tg)) × (List (Int × Tf))) =>
    some (.go ((addI .i64 s3.1 1), v4.1, v4.2.1, v4.2.2.1, v4.2.2.2.1, v4.2.2.2.2.1, v4.2.2.2.2.2))
  )
 ) else (
   some (.out (.go (s3.2.2.1, s3.2.2.2.1, s3.2.2.2.2.1, s3.2.2.2.2.2.1, s3.2.2.2.2.2.2)))
 )

noncomputable def gl (x0 : Int) (x1 : Int) : Option Bool :=
 (gU).bind fun r1 =>
 bif (notB r1) then (
  some false
 ) else (
   ((gE 6)).bind fun r2 =>
   ((loopF gl.loop1 (1, r2.fb.fe, r2.fb.fj, r2.fc, r2.ff, r2.fg)).bind fun f => flC f fun (v1 : (List (Int × Ta)) × Int × (List (Tc × Te)) × (List (Tb × Tg)) × (List (Int × Tf))) =>
     ((loopF gl.loop3 (1, 0, v1.1, v1.2.1, v1.2.2.1, v1.2.2.2.1, v1.2.2.2.2)).bind fun f => flC f fun (v3 : (List (Int × Ta)) × Int × (List (Tc × Te)) × (List (Tb × Tg)) × (List (Int × Tf))) =>
       need (NonZ 16) <|
       need (NonZ 3) <|
       need (NonZ 4) <|
       need (NonZ 4) <|
       ((gf (Th.mk (Tj.mk v3.1 v3.2.1) v3.2.2.1 v3.2.2.2.1 v3.2.2.2.2) (Td.mk 5 ⟨#[]⟩ ⟨#[]⟩ 0 (addI .i64 1 (quoI .i64 (remI (bitsOp .and .i64 x0 255) 16) 4)) (remI (remI (bitsOp .and .i64 x0 255) 16) 4) (remI (bitsOp .and .i64 x1 255) 3) false false []))).bind fun r5 =>
       ((gM r5.2.2 (Tb.mk 0 (Tc.mk (addI .i64 1 (quoI .i64 (remI (bitsOp .and .i64 x0 255) 16) 4)) (remI (remI (bitsOp .and .i64 x0 255) 16) 4))))).bind fun r6 =>
       need (Under (pickB (pickB (eqI r5.2.1 0) r6.2 false) (eqI r6.1.fo (remI (bitsOp .and .i64 x1 255) 3)) false) true ((gg r5.2.2).isSome = true)) <|
       some (pickB (pickB (pickB (eqI r5.2.1 0) r6.2 false) (eqI r6.1.fo (remI (bitsOp .and .i64 x1 255) 3)) false) (eqI (lenL ((gg r5.2.2).getD dflt)) 16) false)
     )
   )
 )
end Go.Proofs
end
section
namespace Go.Proofs
open Go.Ab
noncomputable def gz.loop2 (x0 : Int) (s1 : Int × (List (Int × Ta)) × Int × (List (Tc × Te)) × (List (Tb × Tg)) × (List (Int × Tf))) (s2 : Int × (List (Int × Ta)) × Int × (List (Tc × Te)) × (List (Tb × Tg)) × (List (Int × Tf))) : Option (Fl (Int × (List (Int × Ta)) × Int × (List (Tc × Te)) × (List (Tb × Tg)) × (List (Int × Tf))) (Fl ((List (Int × Ta)) × Int × (List (Tc × Te)) × (List (Tb × Tg)) × (List (Int × Tf))) (Fl (Int × (List (Int × Ta)) × Int × (List (Tc × Te)) × (List (Tb × Tg)) × (List (Int × Tf))) (Fl ((List (Int × Ta)) × Int × (List (Tc × Te)) × (List (Tb × Tg)) × (List (Int × Tf))) Bool)))) :=
 bif (ltI s2.1 (addI .i64 2 (bitsOp .and .i64 x0 3))) then (
  ((gf (Th.mk (Tj.mk s2.2.1 s2.2.2.1) s2.2.2.2.1 s2.2.2.2.2.1 s2.2.2.2.2.2) (Td.mk 5 ⟨#[]⟩ ⟨#[]⟩ s1.1 s2.1 0 0 false false []))).bind fun r3 =>
  some (.go ((addI .i64 s2.1 1), r3.2.2.fb.fe, r3.2.2.fb.fj, r3.2.2.fc, r3.2.2.ff, r3.2.2.fg))
 ) else (
   some (.out (.go (s2.2.1, s2.2.2.1, s2.2.2.2.1, s2.2.2.2.2.1, s2.2.2.2.2.2)))
 )

noncomputable def gz.loop1 (x0 : Int) (s1 : Int × (List (Int × Ta)) × Int × (List (Tc × Te)) × (List (Tb × Tg)) × (List (Int × Tf))) : Option (Fl (Int × (List (Int × Ta)) × Int × (List (Tc × Te)) × (List (Tb × Tg)) × (List (Int × Tf))) (Fl ((List (Int × Ta)) × Int × (List (Tc × Te)) × (List (Tb × Tg)) × (List (Int × Tf))) Bool)) :=
 bif (ltI s1.1 (addI .i64 2 (bitsOp .and .i64 x0 3))) then (
  ((loopF (gz.loop2 x0 s1) (0, s1.2.1, s1.2.2.1, s1.2.2.2.1, s1.2.2.2.2.1, s1.2.2.2.2.2)).bind fun f => flC f fun (v2 : (List (Int × Ta)) × Int × (List (Tc × Te)) × (List (Tb × Tg)) × (List (Int × Tf))) =>
    some (.go ((addI .i64 s1.1 1), v2.1, v2.2.1, v2.2.2.1, v2.2.2.2.1, v2.2.2.2.2))
  )
 ) else (
   some (.out (.go (s1.2.1, s1.2.2.1, s1.2.2.2.1, s1.2.2.2.2.1, s1.2.2.2.2.2)))
 )

noncomputable def gz (x0 : Int) (x1 : Int) (x2 : Bool) : Option Bool :=
 (gU).bind fun r1 =>
 bif (notB r1) then (
  some false
 ) else (
   ((gE (addI .i64 2 (bitsOp .and .i64 x0 3)))).bind fun r2 =>
   need (NonZ (addI .i64 2 (bitsOp .and .i64 x0 3))) <|
   ((loopF (gz.loop1 x0) (0, r2.fb.fe, r2.fb.fj, r2.fc, r2.ff, r2.fg)).bind fun f => flC f fun (v1 : (List (Int × Ta)) × Int × (List (Tc × Te)) × (List (Tb × Tg)) × (List (Int × Tf))) =>
     ((gg (Th.mk (Tj.mk v1.1 v1.2.1) v1.2.2.1 v1.2.2.2.1 v1.2.2.2.2))).bind fun r4 =>
     need (Under (neI (lenL r4) (mulI .i64 (addI .i64 2 (bitsOp .and .i64 x0 3)) (subI .i64 (addI .i64 2 (bitsOp .and .i64 x0 3)) 1))) false ((gk (Th.mk (Tj.mk v1.1 v1.2.1) v1.2.2.1 v1.2.2.2.1 v1.2.2.2.2) (Tc.mk (remI (bitsOp .and .i64 x1 255) (addI .i64 2 (bitsOp .and .i64 x0 3))) 0)).isSome = true)) <|
     bif (pickB (neI (lenL r4) (mulI .i64 (addI .i64 2 (bitsOp .and .i64 x0 3)) (subI .i64 (addI .i64 2 (bitsOp .and .i64 x0 3)) 1))) true (neI (lenL ((gk (Th.mk (Tj.mk v1.1 v1.2.1) v1.2.2.1 v1.2.2.2.1 v1.2.2.2.2) (Tc.mk (remI (bitsOp .and .i64 x1 255) (addI .i64 2 (bitsOp .and .i64 x0 3))) 0)).getD dflt)) (subI .i64 (addI .i64 2 (bitsOp .and .i64 x0 3)) 1))) then (
      some false
     ) else (
       ((
        bif x2 then (
         some (.go ((mulI .i64 (subI .i64 (addI .i64 2 (bitsOp .and .i64 x0 3)) 1) (subI .i64 (addI .i64 2 (bitsOp .and .i64 x0 3)) 2)), 2))
        ) else (
          some (.go ((mulI .i64 (subI .i64 (addI .i64 2 (bitsOp .and .i64 x0 3)) 1) (subI .i64 (addI .i64 2 (bitsOp .and .i64 x0 3)) 1)), 4))
        )
        : Option (Fl (Int × Int) Bool)).bind fun f => flC f fun (v3 : Int × Int) =>
        ((gf (Th.mk (Tj.mk v1.1 v1.2.1) v1.2.2.1 v1.2.2.2.1 v1.2.2.2.2) (Td.mk v3.2 ⟨#[]⟩ ⟨#[]⟩ (remI (bitsOp .and .i64 x1 255) (addI .i64 2 (bitsOp .and .i64 x0 3))) 0 0 0 false false []))).bind fun r5 =>
        need (Under (neI r5.2.1 0) false ((gg r5.2.2).isSome = true)) <|
        need (Under (pickB (neI r5.2.1 0) true (neI (lenL ((gg r5.2.2).getD dflt)) v3.1)) false ((gk r5.2.2 (Tc.mk (remI (bitsOp .and .i64 x1 255) (addI .i64 2 (bitsOp .and .i64 x0 3))) 0)).isSome = true)) <|
        bif (pickB (pickB (neI r5.2.1 0) true (neI (lenL ((gg r5.2.2).getD dflt)) v3.1)) true (neI (lenL ((gk r5.2.2 (Tc.mk (remI (bitsOp .and .i64 x1 255) (addI .i64 2 (bitsOp .and .i64 x0 3))) 0)).getD dflt)) 0)) then (
         some false
        ) else (
          need (NonZ (addI .i64 2 (bitsOp .and .i64 x0 3))) <|
          ((gf r5.2.2 (Td.mk 3 ⟨#[]⟩ ⟨#[]⟩ (remI (addI .i64 (remI (bitsOp .and .i64 x1 255) (addI .i64 2 (bitsOp .and .i64 x0 3))) 1) (addI .i64 2 (bitsOp .and .i64 x0 3))) 0 2 0 false false [(cvtI .u32 (addI .i64 (mulI .i64 100 (remI (bitsOp .and .i64 x1 255) (addI .i64 2 (bitsOp .and .i64 x0 3)))) 2))]))).bind fun r6 =>
          ((gq r6.2.2 (cvtI .u32 (addI .i64 (mulI .i64 100 (remI (bitsOp .and .i64 x1 255) (addI .i64 2 (bitsOp .and .i64 x0 3)))) 2)))).bind fun r7 =>
          some (pickB (pickB (eqI r6.2.1 0) r7.2 false) (pickB (pickB (eqI r7.1.fOf.fd (remI (addI .i64 (remI (bitsOp .and .i64 x1 255) (addI .i64 2 (bitsOp .and .i64 x0 3))) 1) (addI .i64 2 (bitsOp .and .i64 x0 3)))) (eqI r7.1.fOf.fh 2) false) (eqI r7.1.fo 0) false) false)
        )
       )
     )
   )
 )
end Go.Proofs
end
