/- What these functions compute, as plain functions. No condition. -/
import Derived.Test.YtoiieebljbhpbaaGreatDoorTs
import Derived.Test.YtoiieebljbhpbaaGreatDoorM07
import Derived.Test.YtoiieebljbhpbaaGreatDoorM06
import Derived.Test.YtoiieebljbhpbaaGreatDoorM10
import Derived.Test.YtoiieebljbhpbaaGreatDoorM03
section
namespace Go.Proofs
open Go.Ab
noncomputable def gE.loop1 (x0 : Int) (s1 : Int × (List (Int × Ta)) × Int × (List (Tc × Te)) × (List (Tb × Tg)) × (List (Int × Tf))) : Option (Fl (Int × (List (Int × Ta)) × Int × (List (Tc × Te)) × (List (Tb × Tg)) × (List (Int × Tf))) (Fl ((List (Int × Ta)) × Int × (List (Tc × Te)) × (List (Tb × Tg)) × (List (Int × Tf))) Th)) :=
 bif (ltI s1.1 (minI (maxI x0 0) 6)) then (
  need (CatB ⟨#[112]⟩ (Utf8.encode (cvtI .i32 (addI .i64 97 s1.1)))) <|
  ((gf (Th.mk (Tj.mk s1.2.1 s1.2.2.1) s1.2.2.2.1 s1.2.2.2.2.1 s1.2.2.2.2.2) (Td.mk 1 ⟨#[104, 97, 108, 108]⟩ (catS ⟨#[112]⟩ (Utf8.encode (cvtI .i32 (addI .i64 97 s1.1)))) 0 0 0 0 false false []))).bind fun r2 =>
  ((gf r2.2.2 (Td.mk 3 ⟨#[]⟩ ⟨#[]⟩ s1.1 0 0 0 false true [(cvtI .u32 (addI .i64 (mulI .i64 100 s1.1) 1)), (cvtI .u32 (addI .i64 (mulI .i64 100 s1.1) 2)), (cvtI .u32 (addI .i64 (mulI .i64 100 s1.1) 3))]))).bind fun r3 =>
  some (.go ((addI .i64 s1.1 1), r3.2.2.fb.fe, r3.2.2.fb.fj, r3.2.2.fc, r3.2.2.ff, r3.2.2.fg))
 ) else (
   some (.out (.go (s1.2.1, s1.2.2.1, s1.2.2.2.1, s1.2.2.2.2.1, s1.2.2.2.2.2)))
 )

noncomputable def gE (x0 : Int) : Option Th :=
 (gV).bind fun r1 =>
 ((loopF (gE.loop1 x0) (0, r1.fb.fe, r1.fb.fj, r1.fc, r1.ff, r1.fg)).bind fun f => flC f fun (v1 : (List (Int × Ta)) × Int × (List (Tc × Te)) × (List (Tb × Tg)) × (List (Int × Tf))) =>
   some (Th.mk (Tj.mk v1.1 v1.2.1) v1.2.2.1 v1.2.2.2.1 v1.2.2.2.2)
 )

noncomputable def gU : Option Bool :=
 ((gE 2)).bind fun r1 =>
 need ((gI r1.fb).isSome = true) <|
 bif (neI ((gI r1.fb).getD dflt) 2) then (
  some false
 ) else (
   ((gf r1 (Td.mk 5 ⟨#[]⟩ ⟨#[]⟩ 1 0 0 0 false false []))).bind fun r2 =>
   ((gq r2.2.2 2)).bind fun r3 =>
   ((gg r2.2.2)).bind fun r4 =>
   ((gf r2.2.2 (Td.mk 2 ⟨#[]⟩ ⟨#[]⟩ 0 0 0 0 false false []))).bind fun r5 =>
   need (Under (pickB (pickB (pickB (eqI r2.2.1 0) r3.2 false) (pickB (pickB (eqI r3.1.fOf.fd 0) (eqI r3.1.fOf.fh 0) false) (eqI r3.1.fo 1) false) false) (eqI (lenL r4) 1) false) true ((gg r5.2.2).isSome = true)) <|
   some (pickB (pickB (pickB (pickB (eqI r2.2.1 0) r3.2 false) (pickB (pickB (eqI r3.1.fOf.fd 0) (eqI r3.1.fOf.fh 0) false) (eqI r3.1.fo 1) false) false) (eqI (lenL r4) 1) false) (eqI (lenL ((gg r5.2.2).getD dflt)) 0) false)
 )

noncomputable def gaz.loop1 (x0 : Th) (x1 : Tl) (r2 : List Tb) (s1 : Int) : Option (Fl Int (Fl Unit Int)) :=
 bif (ltI s1 (lenL x1.ff)) then (
  need (InB s1 (lenL x1.ff)) <|
  ((gM x0 (Tb.mk ((nthI x1.ff s1).fu) (Tc.mk ((nthI x1.ff s1).fd) ((nthI x1.ff s1).fN))))).bind fun r3 =>
  need (InB s1 (lenL r2)) <|
  bif (pickB (pickB (pickB (notB (pickB (eqI ((nthI r2 s1).fu) ((nthI x1.ff s1).fu)) (pickB (eqI ((nthI r2 s1).fOf.fd) ((nthI x1.ff s1).fd)) (eqI ((nthI r2 s1).fOf.fh) ((nthI x1.ff s1).fN)) false) false)) true (notB r3.2)) true (neI r3.1.fo ((nthI x1.ff s1).fo))) true (neB r3.1.fw ((nthI x1.ff s1).fw))) then (
   some (.out (.out (-1)))
  ) else (
    some (.go (addI .i64 s1 1))
  )
 ) else (
   some (.out (.go ()))
 )

noncomputable def gaz.loop3 (x0 : Th) (x1 : Tl) (r4 : Te × Bool) (s2 : Int) (s3 : Int) : Option (Fl Int (Fl Unit (Fl Int (Fl Unit Int)))) :=
 bif (ltI s3 (lenL ((nthI x1.fc s2).fa))) then (
  need (InB s3 (lenL ((nthI x1.fc s2).fa))) <|
  ((gq x0 (nthI ((nthI x1.fc s2).fa) s3))).bind fun r5 =>
  need (InB s3 (lenL r4.1.fa)) <|
  bif (pickB (pickB (pickB (neI (nthI r4.1.fa s3) (nthI ((nthI x1.fc s2).fa) s3)) true (notB r5.2)) true (notB (pickB (eqI r5.1.fOf.fd ((nthI x1.fc s2).fd)) (eqI r5.1.fOf.fh ((nthI x1.fc s2).fN)) false))) true (neI r5.1.fo s3)) then (
   some (.out (.out (.out (.out (-1)))))
  ) else (
    some (.go (addI .i64 s3 1))
  )
 ) else (
   some (.out (.go ()))
 )

noncomputable def gaz.loop2 (x0 : Th) (x1 : Tl) (s2 : Int) : Option (Fl Int (Fl Unit Int)) :=
 bif (ltI s2 (lenL x1.fc)) then (
  need (InB s2 (lenL x1.fc)) <|
  ((gu x0 (Tc.mk ((nthI x1.fc s2).fd) ((nthI x1.fc s2).fN)))).bind fun r4 =>
  bif (pickB (pickB (pickB (notB r4.2) true (neB r4.1.fq ((nthI x1.fc s2).fq))) true (neB r4.1.fy ((nthI x1.fc s2).fy))) true (neI (lenL r4.1.fa) (lenL ((nthI x1.fc s2).fa)))) then (
   some (.out (.out (-1)))
  ) else (
    ((loopF (gaz.loop3 x0 x1 r4 s2) 0).bind fun f => flC f fun (_v3 : Unit) =>
      some (.go (addI .i64 s2 1))
    )
  )
 ) else (
   some (.out (.go ()))
 )

noncomputable def gaz (x0 : Th) (x1 : Tl) : Option Int :=
 ((gaG x0.fb x1.fT 0)).bind fun r1 =>
 bif (neI r1 0) then (
  some (-1)
 ) else (
   ((gg x0)).bind fun r2 =>
   bif (neI (lenL r2) (lenL x1.ff)) then (
    some (-1)
   ) else (
     ((loopF (gaz.loop1 x0 x1 r2) 0).bind fun f => flC f fun (_v1 : Unit) =>
       ((loopF (gaz.loop2 x0 x1) 0).bind fun f => flC f fun (_v2 : Unit) =>
         some 0
       )
     )
   )
 )
end Go.Proofs
end
section
namespace Go.Proofs
open Go.Ab
noncomputable def ge.loop1 (x0 : List Td) (s1 : Int × (List (Int × Ta)) × Int × (List (Tc × Te)) × (List (Tb × Tg)) × (List (Int × Tf))) : Option (Fl (Int × (List (Int × Ta)) × Int × (List (Tc × Te)) × (List (Tb × Tg)) × (List (Int × Tf))) (Fl ((List (Int × Ta)) × Int × (List (Tc × Te)) × (List (Tb × Tg)) × (List (Int × Tf))) Bool)) :=
 bif (pickB (ltI s1.1 (lenL x0)) (ltI s1.1 80) false) then (
  need (InB s1.1 (lenL x0)) <|
  ((gZ (nthI x0 s1.1))).bind fun r3 =>
  ((gf (Th.mk (Tj.mk s1.2.1 s1.2.2.1) s1.2.2.2.1 s1.2.2.2.2.1 s1.2.2.2.2.2) r3)).bind fun r4 =>
  some (.go ((addI .i64 s1.1 1), r4.2.2.fb.fe, r4.2.2.fb.fj, r4.2.2.fc, r4.2.2.ff, r4.2.2.fg))
 ) else (
   some (.out (.go (s1.2.1, s1.2.2.1, s1.2.2.2.1, s1.2.2.2.2.1, s1.2.2.2.2.2)))
 )

noncomputable def ge.loop2 (r5 : List Tb) (v1 : (List (Int × Ta)) × Int × (List (Tc × Te)) × (List (Tb × Tg)) × (List (Int × Tf))) (s2 : Int) : Option (Fl Int (Fl Unit Bool)) :=
 bif (ltI s2 (lenL r5)) then (
  need (InB s2 (lenL r5)) <|
  ((gu (Th.mk (Tj.mk v1.1 v1.2.1) v1.2.2.1 v1.2.2.2.1 v1.2.2.2.2) ((nthI r5 s2).fOf))).bind fun r6 =>
  need (Under (notB r6.2) false ((gw (Tj.mk v1.1 v1.2.1) ((nthI r5 s2).fu) ((nthI r5 s2).fOf.fd)).isSome = true)) <|
  need (Under (ltI 0 s2) true (Under (pickB (notB r6.2) true (notB ((gw (Tj.mk v1.1 v1.2.1) ((nthI r5 s2).fu) ((nthI r5 s2).fOf.fd)).getD dflt))) false (InB (subI .i64 s2 1) (lenL r5)))) <|
  bif (pickB (pickB (notB r6.2) true (notB ((gw (Tj.mk v1.1 v1.2.1) ((nthI r5 s2).fu) ((nthI r5 s2).fOf.fd)).getD dflt))) true (pickB (ltI 0 s2) (pickB (eqI ((nthI r5 (subI .i64 s2 1)).fu) ((nthI r5 s2).fu)) (pickB (eqI ((nthI r5 (subI .i64 s2 1)).fOf.fd) ((nthI r5 s2).fOf.fd)) (eqI ((nthI r5 (subI .i64 s2 1)).fOf.fh) ((nthI r5 s2).fOf.fh)) false) false) false)) then (
   some (.out (.out false))
  ) else (
    some (.go (addI .i64 s2 1))
  )
 ) else (
   some (.out (.go ()))
 )

noncomputable def ge.loop5 (r7 : Te × Bool) (s4 : Int × (List (Int × Int))) (s3 : Int × (List (Int × Int))) (v1 : (List (Int × Ta)) × Int × (List (Tc × Te)) × (List (Tb × Tg)) × (List (Int × Tf))) (s5 : Int × (List (Int × Int))) : Option (Fl (Int × (List (Int × Int))) (Fl (List (Int × Int)) (Fl (Int × (List (Int × Int))) (Fl (List (Int × Int)) (Fl (Int × (List (Int × Int))) (Fl (List (Int × Int)) Bool)))))) :=
 bif (ltI s5.1 (lenL r7.1.fa)) then (
  need (InB s5.1 (lenL r7.1.fa)) <|
  ((gq (Th.mk (Tj.mk v1.1 v1.2.1) v1.2.2.1 v1.2.2.2.1 v1.2.2.2.2) (nthI r7.1.fa s5.1))).bind fun r9 =>
  bif (pickB (pickB (pickB (ltI 1 (getM eqI (nthI r7.1.fa s5.1) 0 (setM eqI (nthI r7.1.fa s5.1) (addI .i64 (getM eqI (nthI r7.1.fa s5.1) 0 s5.2) 1) s5.2))) true (notB r9.2)) true (notB (pickB (eqI r9.1.fOf.fd s3.1) (eqI r9.1.fOf.fh s4.1) false))) true (neI r9.1.fo s5.1)) then (
   some (.out (.out (.out (.out (.out (.out false))))))
  ) else (
    some (.go ((addI .i64 s5.1 1), (setM eqI (nthI r7.1.fa s5.1) (addI .i64 (getM eqI (nthI r7.1.fa s5.1) 0 s5.2) 1) s5.2)))
  )
 ) else (
   some (.out (.go s5.2))
 )

noncomputable def ge.loop4 (s3 : Int × (List (Int × Int))) (v1 : (List (Int × Ta)) × Int × (List (Tc × Te)) × (List (Tb × Tg)) × (List (Int × Tf))) (s4 : Int × (List (Int × Int))) : Option (Fl (Int × (List (Int × Int))) (Fl (List (Int × Int)) (Fl (Int × (List (Int × Int))) (Fl (List (Int × Int)) Bool)))) :=
 bif (ltI s4.1 4) then (
  ((gu (Th.mk (Tj.mk v1.1 v1.2.1) v1.2.2.1 v1.2.2.2.1 v1.2.2.2.2) (Tc.mk s3.1 s4.1))).bind fun r7 =>
  ((gP (Tj.mk v1.1 v1.2.1) s3.1)).bind fun r8 =>
  bif (pickB r7.2 (notB r8.2) false) then (
   some (.out (.out (.out (.out false))))
  ) else (
    ((loopF (ge.loop5 r7 s4 s3 v1) (0, s4.2)).bind fun f => flC f fun (v5 : (List (Int × Int))) =>
      some (.go ((addI .i64 s4.1 1), v5))
    )
  )
 ) else (
   some (.out (.go s4.2))
 )

noncomputable def ge.loop3 (v1 : (List (Int × Ta)) × Int × (List (Tc × Te)) × (List (Tb × Tg)) × (List (Int × Tf))) (s3 : Int × (List (Int × Int))) : Option (Fl (Int × (List (Int × Int))) (Fl (List (Int × Int)) Bool)) :=
 bif (ltI s3.1 100) then (
  ((loopF (ge.loop4 s3 v1) (0, s3.2)).bind fun f => flC f fun (v4 : (List (Int × Int))) =>
    some (.go ((addI .i64 s3.1 1), v4))
  )
 ) else (
   some (.out (.go s3.2))
 )

noncomputable def ge (x0 : List Td) : Option Bool :=
 (gU).bind fun r1 =>
 bif (notB r1) then (
  some false
 ) else (
   (gV).bind fun r2 =>
   ((loopF (ge.loop1 x0) (0, r2.fb.fe, r2.fb.fj, r2.fc, r2.ff, r2.fg)).bind fun f => flC f fun (v1 : (List (Int × Ta)) × Int × (List (Tc × Te)) × (List (Tb × Tg)) × (List (Int × Tf))) =>
     ((gg (Th.mk (Tj.mk v1.1 v1.2.1) v1.2.2.1 v1.2.2.2.1 v1.2.2.2.2))).bind fun r5 =>
     ((loopF (ge.loop2 r5 v1) 0).bind fun f => flC f fun (_v2 : Unit) =>
       ((loopF (ge.loop3 v1) (0, [])).bind fun f => flC f fun (_v3 : (List (Int × Int))) =>
         some true
       )
     )
   )
 )
end Go.Proofs
end
section
namespace Go.Proofs
open Go.Ab
noncomputable def gay (x0 : Int) : Option Bool :=
 some (pickB (leqI 2 x0) (leqI x0 8) false)

noncomputable def gaE (x0 : Int) : Option Bool :=
 some (pickB (pickB (eqI x0 5) true (eqI x0 6)) true (eqI x0 8))

noncomputable def gaC (x0 : Int) : Option Bool :=
 some (pickB (leqI 3 x0) (leqI x0 8) false)

noncomputable def gaA (x0 : Int) : Option Bool :=
 some (pickB (leqI 0 x0) (leqI x0 65535) false)

noncomputable def gi.loop2 (x0 : Td) (s1 : Int) (s2 : Int) : Option (Fl Int (Fl Unit (Fl Int (Fl Unit Int)))) :=
 bif (ltI s2 s1) then (
  need (InB s1 (lenL x0.fa)) <|
  need (InB s2 (lenL x0.fa)) <|
  bif (eqI (nthI x0.fa s1) (nthI x0.fa s2)) then (
   some (.out (.out (.out (.out 10))))
  ) else (
    some (.go (addI .i64 s2 1))
  )
 ) else (
   some (.out (.go ()))
 )

noncomputable def gi.loop1 (x0 : Td) (s1 : Int) : Option (Fl Int (Fl Unit Int)) :=
 bif (ltI s1 (lenL x0.fa)) then (
  ((loopF (gi.loop2 x0 s1) 0).bind fun f => flC f fun (_v2 : Unit) =>
    some (.go (addI .i64 s1 1))
  )
 ) else (
   some (.out (.go ()))
 )

noncomputable def gi (x0 : Td) : Option Int :=
 bif (pickB (pickB (ltI (lenL x0.fa) 1) true (ltI 3 (lenL x0.fa))) true (pickB (ltI 1 (lenL x0.fa)) (notB x0.fq) false)) then (
  some 5
 ) else (
   ((loopF (gi.loop1 x0) 0).bind fun f => flC f fun (_v1 : Unit) =>
     some 0
   )
 )

noncomputable def gab (x0 : Td) : Option Int :=
 bif (pickB (ltI x0.fk 1) true (ltI 8 x0.fk)) then (
  some 3
 ) else (
   need (Under (pickB (neI x0.fk 1) (pickB (neS x0.fm ⟨#[]⟩) true (neS x0.fp ⟨#[]⟩)) false) false ((gay x0.fk).isSome = true)) <|
   need (Under (pickB (pickB (neI x0.fk 1) (pickB (neS x0.fm ⟨#[]⟩) true (neS x0.fp ⟨#[]⟩)) false) true (pickB (notB ((gay x0.fk).getD dflt)) (neI x0.fd 0) false)) false ((gaE x0.fk).isSome = true)) <|
   need (Under (pickB (pickB (pickB (neI x0.fk 1) (pickB (neS x0.fm ⟨#[]⟩) true (neS x0.fp ⟨#[]⟩)) false) true (pickB (notB ((gay x0.fk).getD dflt)) (neI x0.fd 0) false)) true (pickB (notB ((gaE x0.fk).getD dflt)) (neI x0.fOf 0) false)) false ((gaC x0.fk).isSome = true)) <|
   bif (pickB (pickB (pickB (pickB (neI x0.fk 1) (pickB (neS x0.fm ⟨#[]⟩) true (neS x0.fp ⟨#[]⟩)) false) true (pickB (notB ((gay x0.fk).getD dflt)) (neI x0.fd 0) false)) true (pickB (notB ((gaE x0.fk).getD dflt)) (neI x0.fOf 0) false)) true (pickB (notB ((gaC x0.fk).getD dflt)) (neI x0.fh 0) false)) then (
    some 2
   ) else (
     bif (pickB (pickB (pickB (neI x0.fk 5) (neI x0.fo 0) false) true (pickB (pickB (neI x0.fk 7) (neI x0.fk 8) false) x0.fOn false)) true (pickB (neI x0.fk 3) (pickB x0.fq true (ltI 0 (lenL x0.fa))) false)) then (
      some 2
     ) else (
       ((gaA x0.fd)).bind fun r1 =>
       need (Under (notB r1) false ((gaA x0.fOf).isSome = true)) <|
       bif (pickB (pickB (pickB (pickB (pickB (notB r1) true (notB ((gaA x0.fOf).getD dflt))) true (ltI x0.fh 0)) true (ltI 3 x0.fh)) true (ltI x0.fo 0)) true (ltI 2 x0.fo)) then (
        some 5
       ) else (
         need (Under (eqI x0.fk 1) true ((gag x0.fm).isSome = true)) <|
         need (Under (notB ((gag x0.fm).getD dflt)) false (Under (eqI x0.fk 1) true ((gag x0.fp).isSome = true))) <|
         bif (pickB (eqI x0.fk 1) (pickB (notB ((gag x0.fm).getD dflt)) true (notB ((gag x0.fp).getD dflt))) false) then (
          some 6
         ) else (
           bif (eqI x0.fk 3) then (
            ((gi x0)).bind fun r2 =>
            some r2
           ) else (
             some 0
           )
         )
       )
     )
   )
 )
end Go.Proofs
end
section
namespace Go.Proofs
open Go.Ab
noncomputable def gt.loop3 (r4 : List Tb) (r9 : List Tb) (s3 : Int) : Option (Fl Int (Fl Unit (Fl ((List (Int × Ta)) × Int × (List (Tc × Te)) × (List (Tb × Tg)) × (List (Int × Tf))) (Fl (Int × (List (Int × Ta)) × Int × (List (Tc × Te)) × (List (Tb × Tg)) × (List (Int × Tf))) (Fl ((List (Int × Ta)) × Int × (List (Tc × Te)) × (List (Tb × Tg)) × (List (Int × Tf))) Bool))))) :=
 bif (ltI s3 (lenL r9)) then (
  need (InB s3 (lenL r9)) <|
  need (InB s3 (lenL r4)) <|
  bif (notB (pickB (eqI ((nthI r9 s3).fu) ((nthI r4 s3).fu)) (pickB (eqI ((nthI r9 s3).fOf.fd) ((nthI r4 s3).fOf.fd)) (eqI ((nthI r9 s3).fOf.fh) ((nthI r4 s3).fOf.fh)) false) false)) then (
   some (.out (.out (.out (.out (.out false)))))
  ) else (
    some (.go (addI .i64 s3 1))
  )
 ) else (
   some (.out (.go ()))
 )

noncomputable def gt.loop1 (x1 : List Td) (s1 : Int × (List (Int × Ta)) × Int × (List (Tc × Te)) × (List (Tb × Tg)) × (List (Int × Tf))) : Option (Fl (Int × (List (Int × Ta)) × Int × (List (Tc × Te)) × (List (Tb × Tg)) × (List (Int × Tf))) (Fl ((List (Int × Ta)) × Int × (List (Tc × Te)) × (List (Tb × Tg)) × (List (Int × Tf))) Bool)) :=
 bif (pickB (ltI s1.1 (lenL x1)) (ltI s1.1 60) false) then (
  ((
   need (InB s1.1 (lenL x1)) <|
   ((gZ (nthI x1 s1.1))).bind fun r3 =>
   ((gg (Th.mk (Tj.mk s1.2.1 s1.2.2.1) s1.2.2.2.1 s1.2.2.2.2.1 s1.2.2.2.2.2))).bind fun r4 =>
   ((gI (Tj.mk s1.2.1 s1.2.2.1))).bind fun r5 =>
   ((gu (Th.mk (Tj.mk s1.2.1 s1.2.2.1) s1.2.2.2.1 s1.2.2.2.2.1 s1.2.2.2.2.2) (Tc.mk r3.fd r3.fh))).bind fun r6 =>
   ((gf (Th.mk (Tj.mk s1.2.1 s1.2.2.1) s1.2.2.2.1 s1.2.2.2.2.1 s1.2.2.2.2.2) r3)).bind fun r7 =>
   bif (eqI r7.2.1 0) then (
    some (.go (r7.2.2.fb.fe, r7.2.2.fb.fj, r7.2.2.fc, r7.2.2.ff, r7.2.2.fg))
   ) else (
     ((gu r7.2.2 (Tc.mk r3.fd r3.fh))).bind fun r8 =>
     ((gg r7.2.2)).bind fun r9 =>
     need (Under (pickB (pickB (neB r6.2 r8.2) true (neB r6.1.fy r8.1.fy)) true (neI (lenL r6.1.fa) (lenL r8.1.fa))) false ((gI r7.2.2.fb).isSome = true)) <|
     bif (pickB (pickB (pickB (pickB (neB r6.2 r8.2) true (neB r6.1.fy r8.1.fy)) true (neI (lenL r6.1.fa) (lenL r8.1.fa))) true (neI ((gI r7.2.2.fb).getD dflt) r5)) true (neI (lenL r9) (lenL r4))) then (
      some (.out (.out (.out false)))
     ) else (
       ((loopF (gt.loop3 r4 r9) 0).bind fun f => flC f fun (_v3 : Unit) =>
         some (.go (r7.2.2.fb.fe, r7.2.2.fb.fj, r7.2.2.fc, r7.2.2.ff, r7.2.2.fg))
       )
     )
   )
   : Option (Fl ((List (Int × Ta)) × Int × (List (Tc × Te)) × (List (Tb × Tg)) × (List (Int × Tf))) (Fl (Int × (List (Int × Ta)) × Int × (List (Tc × Te)) × (List (Tb × Tg)) × (List (Int × Tf))) (Fl ((List (Int × Ta)) × Int × (List (Tc × Te)) × (List (Tb × Tg)) × (List (Int × Tf))) Bool)))).bind fun f => flC f fun (v2 : (List (Int × Ta)) × Int × (List (Tc × Te)) × (List (Tb × Tg)) × (List (Int × Tf))) =>
   some (.go ((addI .i64 s1.1 1), v2.1, v2.2.1, v2.2.2.1, v2.2.2.2.1, v2.2.2.2.2))
  )
 ) else (
   some (.out (.go (s1.2.1, s1.2.2.1, s1.2.2.2.1, s1.2.2.2.2.1, s1.2.2.2.2.2)))
 )

noncomputable def gt (x0 : Int) (x1 : List Td) : Option Bool :=
 (gU).bind fun r1 =>
 bif (notB r1) then (
  some false
 ) else (
   ((gE x0)).bind fun r2 =>
   ((loopF (gt.loop1 x1) (0, r2.fb.fe, r2.fb.fj, r2.fc, r2.ff, r2.fg)).bind fun f => flC f fun (_v1 : (List (Int × Ta)) × Int × (List (Tc × Te)) × (List (Tb × Tg)) × (List (Int × Tf))) =>
     some true
   )
 )
end Go.Proofs
end
