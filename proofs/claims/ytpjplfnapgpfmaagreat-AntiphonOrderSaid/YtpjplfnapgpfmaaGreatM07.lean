/- What these functions compute, as plain functions. No condition. -/
import Derived.Test.YtpjplfnapgpfmaaGreatTs
import Derived.Test.YtpjplfnapgpfmaaGreatM05
section
namespace Go.Proofs
open Go.Ab
noncomputable def gaB (x0 : Int) : Option Bool :=
 some (neI x0 x0)

noncomputable def gaL (x0 : Int) (x1 : Int) : Option Bool :=
 ((gaB x0)).bind fun r1 =>
 need (Under r1 true ((gaB x1).isSome = true)) <|
 some (pickB (pickB r1 (notB ((gaB x1).getD dflt)) false) true (ltI x0 x1))

noncomputable def gY (x0 : Int) : Option Bool :=
 some (neI x0 x0)

noncomputable def gc.loop1 (x0 : List Int) (x1 : Int) (s1 : Int × Int) : Option (Fl (Int × Int) (Fl Int (Int × Bool))) :=
 bif (ltI s1.1 s1.2) then (
  need (NonN 1) <|
  need (InB (cvtI .i64 (shrI .u64 (cvtI .u64 (addI .i64 s1.1 s1.2)) 1)) (lenL x0)) <|
  ((gaL (nthI x0 (cvtI .i64 (shrI .u64 (cvtI .u64 (addI .i64 s1.1 s1.2)) 1))) x1)).bind fun r1 =>
  bif r1 then (
   some (.go ((addI .i64 (cvtI .i64 (shrI .u64 (cvtI .u64 (addI .i64 s1.1 s1.2)) 1)) 1), s1.2))
  ) else (
    some (.go (s1.1, (cvtI .i64 (shrI .u64 (cvtI .u64 (addI .i64 s1.1 s1.2)) 1))))
  )
 ) else (
   some (.out (.go s1.1))
 )

noncomputable def gc (x0 : List Int) (x1 : Int) : Option (Int × Bool) :=
 ((loopF (gc.loop1 x0 x1) (0, (lenL x0))).bind fun f => flC f fun (v1 : Int) =>
   need (Under (ltI v1 (lenL x0)) true (InB v1 (lenL x0))) <|
   need (Under (eqI (nthI x0 v1) x1) false (Under (ltI v1 (lenL x0)) true (InB v1 (lenL x0)))) <|
   need (Under (eqI (nthI x0 v1) x1) false (Under (ltI v1 (lenL x0)) true ((gY (nthI x0 v1)).isSome = true))) <|
   need (Under ((gY (nthI x0 v1)).getD dflt) true (Under (eqI (nthI x0 v1) x1) false (Under (ltI v1 (lenL x0)) true ((gY x1).isSome = true)))) <|
   some (v1, (pickB (ltI v1 (lenL x0)) (pickB (eqI (nthI x0 v1) x1) true (pickB ((gY (nthI x0 v1)).getD dflt) ((gY x1).getD dflt) false)) false))
 )
end Go.Proofs
end
section
namespace Go.Proofs
open Go.Ab
noncomputable def gaV (x0 : Int) : Option (Option Tp × Int) :=
 bif (pickB (ltI x0 1) true (ltI 16777216 x0)) then (
  some (none, 5)
 ) else (
   some ((some (Tp.mk x0 [] [] 0 false)), 0)
 )

noncomputable def gao (x0 : Tp) (x1 : Int) (x2 : Int) : Option (Int × Tp) :=
 bif (pickB (ltI x2 x0.fb) true (ltI 16777216 x2)) then (
  some (5, x0)
 ) else (
   bif (ltI 0 (getM eqI x1 0 x0.fk)) then (
    some (10, x0)
   ) else (
     some (0, (Tp.mk x0.fb (setM eqI x1 x2 x0.fk) x0.fp x0.fAt x0.fg))
   )
 )

noncomputable def gF (x0 : Tp) (x1 : Int) : Option (Int × Tp) :=
 bif (eqI (getM eqI x1 0 x0.fk) 0) then (
  some (12, x0)
 ) else (
   ((
    bif (eqI x0.fAt x1) then (
     some (.go false)
    ) else (
      some (.go x0.fg)
    )
    : Option (Fl Bool (Int × Tp))).bind fun f => flC f fun (v1 : Bool) =>
    some (0, (Tp.mk x0.fb (delM eqI x1 x0.fk) (delM eqI x1 x0.fp) x0.fAt v1))
   )
 )

noncomputable def gB.loop1 (x0 : Tp) (x1 : List Tf) (s1 : Int × (List (Int × Int))) : Option (Fl (Int × (List (Int × Int))) (Fl (List (Int × Int)) (List (Int × Int)))) :=
 bif (ltI s1.1 (lenL x1)) then (
  need (InB s1.1 (lenL x1)) <|
  bif (pickB (pickB (ltI 0 (getM eqI ((nthI x1 s1.1).fId) 0 x0.fk)) (leqI 0 ((nthI x1 s1.1).fj)) false) (leqI ((nthI x1 s1.1).fj) x0.fb) false) then (
   some (.go ((addI .i64 s1.1 1), (setM eqI ((nthI x1 s1.1).fId) ((nthI x1 s1.1).fj) s1.2)))
  ) else (
    some (.go ((addI .i64 s1.1 1), s1.2))
  )
 ) else (
   some (.out (.go s1.2))
 )

noncomputable def gB (x0 : Tp) (x1 : List Tf) : Option (List (Int × Int)) :=
 ((loopF (gB.loop1 x0 x1) (0, [])).bind fun f => flC f fun (v1 : (List (Int × Int))) =>
   some v1
 )

noncomputable def gaF (x0 : List Int) (x1 : Int) : Option Int :=
 ((gc x0 x1)).bind fun r1 =>
 ((
  bif r1.2 then (
   some (.go (addI .i64 r1.1 1))
  ) else (
    some (.go r1.1)
  )
  : Option (Fl Int Int)).bind fun f => flC f fun (v1 : Int) =>
  need (NonZ (lenL x0)) <|
  need (InB (remI v1 (lenL x0)) (lenL x0)) <|
  some (nthI x0 (remI v1 (lenL x0)))
 )

noncomputable def ge.loop3 (x0 : Tp) (r1 : (List (Int × Int))) (s3 : Int × Bool × (List (Int × Int))) : Option (Fl (Int × Bool × (List (Int × Int))) (Fl Unit (Int × Bool × Tp))) :=
 ((
  bif (notB s3.2.1) then (
   some (.go (true, (setM eqI s3.1 (addI .i64 (getM eqI s3.1 0 s3.2.2) (getM eqI s3.1 0 x0.fk)) s3.2.2)))
  ) else (
    some (.go (s3.2.1, s3.2.2))
  )
  : Option (Fl (Bool × (List (Int × Int))) (Fl (Int × Bool × (List (Int × Int))) (Fl Unit (Int × Bool × Tp))))).bind fun f => flC f fun (v4 : Bool × (List (Int × Int))) =>
  bif (leqI (getM eqI s3.1 0 r1) (getM eqI s3.1 0 v4.2)) then (
   some (.out (.out (s3.1, true, (Tp.mk x0.fb x0.fk v4.2 s3.1 v4.1))))
  ) else (
    ((gaF (sortL (keysM r1)) s3.1)).bind fun r3 =>
    some (.go (r3, false, v4.2))
  )
 )

noncomputable def ge (x0 : Tp) (x1 : List Tf) : Option (Int × Bool × Tp) :=
 ((gB x0 x1)).bind fun r1 =>
 need (KeysB (keysM r1)) <|
 bif (eqI (lenL (sortL (keysM r1))) 0) then (
  some (0, false, (Tp.mk x0.fb x0.fk (keepM (fun k1 => (bif (notB (hasM eqI k1 r1)) then false else true)) x0.fp) x0.fAt false))
 ) else (
   ((
    bif (notB (hasM eqI x0.fAt r1)) then (
     ((gaF (sortL (keysM r1)) x0.fAt)).bind fun r2 =>
     some (.go (r2, false))
    ) else (
      some (.go (x0.fAt, x0.fg))
    )
    : Option (Fl (Int × Bool) (Int × Bool × Tp))).bind fun f => flC f fun (v2 : Int × Bool) =>
    ((loopF (ge.loop3 x0 r1) (v2.1, v2.2, (keepM (fun k1 => (bif (notB (hasM eqI k1 r1)) then false else true)) x0.fp))).bind fun f => flC f fun (_v3 : Unit) =>
      none
    )
   )
 )

noncomputable def gaj (x0 : Tp) (x1 : Int) : Option Tp :=
 bif (pickB (pickB x0.fg (leqI 0 x1) false) (leqI x1 (getM eqI x0.fAt 0 x0.fp)) false) then (
  some (Tp.mk x0.fb x0.fk (setM eqI x0.fAt (subI .i64 (getM eqI x0.fAt 0 x0.fp) x1) x0.fp) x0.fAt x0.fg)
 ) else (
   some x0
 )
end Go.Proofs
end
section
namespace Go.Proofs
open Go.Ab
noncomputable def gS.loop1 (x0 : Te) (x1 : Int) (s1 : Int) : Option (Fl Int (Fl Unit Int)) :=
 bif (ltI s1 (lenL x0.fL)) then (
  need (InB s1 (lenL x0.fL)) <|
  bif (eqI ((nthI x0.fL s1).fId) x1) then (
   some (.out (.out s1))
  ) else (
    some (.go (addI .i64 s1 1))
  )
 ) else (
   some (.out (.go ()))
 )

noncomputable def gS (x0 : Te) (x1 : Int) : Option Int :=
 ((loopF (gS.loop1 x0 x1) 0).bind fun f => flC f fun (_v1 : Unit) =>
   some (-1)
 )

noncomputable def gav.loop1 (x0 : Te) (x1 : Int) (x2 : Int) (s1 : Int × Bool × List Td) : Option (Fl (Int × Bool × List Td) (Fl (Bool × List Td) (Te × Int))) :=
 bif (ltI s1.1 (lenL x0.fL)) then (
  need (InB s1.1 (lenL x0.fL)) <|
  ((
   bif (pickB (notB s1.2.1) (ltI x1 ((nthI x0.fL s1.1).fId)) false) then (
    need (AppB (lenL s1.2.2) 1 24) <|
    some (.go (true, (appL s1.2.2 [(Td.mk x1 x2 0)])))
   ) else (
     some (.go (s1.2.1, s1.2.2))
   )
   : Option (Fl (Bool × List Td) (Fl (Int × Bool × List Td) (Fl (Bool × List Td) (Te × Int))))).bind fun f => flC f fun (v2 : Bool × List Td) =>
   need (AppB (lenL v2.2) 1 24) <|
   some (.go ((addI .i64 s1.1 1), v2.1, (appL v2.2 [(nthI x0.fL s1.1)])))
  )
 ) else (
   some (.out (.go (s1.2.1, s1.2.2)))
 )

noncomputable def gav (x0 : Te) (x1 : Int) (x2 : Int) : Option (Te × Int) :=
 bif (pickB (ltI x2 x0.fb) true (ltI 16777216 x2)) then (
  some (x0, 5)
 ) else (
   ((gS x0 x1)).bind fun r1 =>
   bif (leqI 0 r1) then (
    some (x0, 10)
   ) else (
     ((loopF (gav.loop1 x0 x1 x2) (0, false, [])).bind fun f => flC f fun (v1 : Bool × List Td) =>
       ((
        bif (notB v1.1) then (
         need (AppB (lenL v1.2) 1 24) <|
         some (.go (appL v1.2 [(Td.mk x1 x2 0)]))
        ) else (
          some (.go v1.2)
        )
        : Option (Fl (List Td) (Te × Int))).bind fun f => flC f fun (v3 : List Td) =>
        some ((Te.mk x0.fb v3 x0.fAt x0.fg), 0)
       )
     )
   )
 )

noncomputable def gan (x0 : Te) (x1 : Int) : Option (Te × Int) :=
 ((gS x0 x1)).bind fun r1 =>
 bif (ltI r1 0) then (
  some (x0, 12)
 ) else (
   need (CutB 0 r1 (lenL x0.fL)) <|
   need (AppB 0 (lenL (cutL x0.fL 0 r1)) 24) <|
   need (CutB (addI .i64 r1 1) (lenL x0.fL) (lenL x0.fL)) <|
   need (AppB (lenL (cutL x0.fL 0 r1)) (lenL (cutL x0.fL (addI .i64 r1 1) (lenL x0.fL))) 24) <|
   ((
    bif (eqI x0.fAt x1) then (
     some (.go false)
    ) else (
      some (.go x0.fg)
    )
    : Option (Fl Bool (Te × Int))).bind fun f => flC f fun (v1 : Bool) =>
    some ((Te.mk x0.fb (appL (appL [] (cutL x0.fL 0 r1)) (cutL x0.fL (addI .i64 r1 1) (lenL x0.fL))) x0.fAt v1), 0)
   )
 )

noncomputable def gI.loop1 (x0 : Te) (x1 : List Tf) (x2 : Int) (s1 : Int × Int) : Option (Fl (Int × Int) (Fl Int Int)) :=
 bif (ltI s1.1 (lenL x1)) then (
  need (InB s1.1 (lenL x1)) <|
  bif (pickB (pickB (eqI ((nthI x1 s1.1).fId) x2) (leqI 0 ((nthI x1 s1.1).fj)) false) (leqI ((nthI x1 s1.1).fj) x0.fb) false) then (
   some (.go ((addI .i64 s1.1 1), (nthI x1 s1.1).fj))
  ) else (
    some (.go ((addI .i64 s1.1 1), s1.2))
  )
 ) else (
   some (.out (.go s1.2))
 )

noncomputable def gI (x0 : Te) (x1 : List Tf) (x2 : Int) : Option Int :=
 ((loopF (gI.loop1 x0 x1 x2) (0, (-1))).bind fun f => flC f fun (v1 : Int) =>
   some v1
 )

noncomputable def gq.loop1 (x0 : Te) (x1 : List Tf) (x2 : Int) (s1 : Int) : Option (Fl Int (Fl Unit Int)) :=
 bif (ltI s1 (lenL x0.fL)) then (
  need (InB s1 (lenL x0.fL)) <|
  need (Under (ltI x2 ((nthI x0.fL s1).fId)) true ((gI x0 x1 ((nthI x0.fL s1).fId)).isSome = true)) <|
  bif (pickB (ltI x2 ((nthI x0.fL s1).fId)) (leqI 0 ((gI x0 x1 ((nthI x0.fL s1).fId)).getD dflt)) false) then (
   some (.out (.out s1))
  ) else (
    some (.go (addI .i64 s1 1))
  )
 ) else (
   some (.out (.go ()))
 )

noncomputable def gq.loop2 (x0 : Te) (x1 : List Tf) (s2 : Int) : Option (Fl Int (Fl Unit Int)) :=
 bif (ltI s2 (lenL x0.fL)) then (
  need (InB s2 (lenL x0.fL)) <|
  ((gI x0 x1 ((nthI x0.fL s2).fId))).bind fun r1 =>
  bif (leqI 0 r1) then (
   some (.out (.out s2))
  ) else (
    some (.go (addI .i64 s2 1))
  )
 ) else (
   some (.out (.go ()))
 )

noncomputable def gq (x0 : Te) (x1 : List Tf) (x2 : Int) : Option Int :=
 ((loopF (gq.loop1 x0 x1 x2) 0).bind fun f => flC f fun (_v1 : Unit) =>
   ((loopF (gq.loop2 x0 x1) 0).bind fun f => flC f fun (_v2 : Unit) =>
     some (-1)
   )
 )

noncomputable def gf.loop1 (x0 : Te) (x1 : List Tf) (s1 : Int × List Td) : Option (Fl (Int × List Td) (Fl (List Td) (Te × Int × Bool))) :=
 bif (ltI s1.1 (lenL x0.fL)) then (
  need (InB s1.1 (lenL x0.fL)) <|
  need (InB s1.1 (lenL s1.2)) <|
  ((gI x0 x1 ((nthI s1.2 s1.1).fId))).bind fun r1 =>
  bif (ltI r1 0) then (
   need (InB s1.1 (lenL x0.fL)) <|
   need (InB s1.1 (lenL s1.2)) <|
   some (.go ((addI .i64 s1.1 1), (setI s1.2 s1.1 (Td.mk ((nthI s1.2 s1.1).fId) ((nthI s1.2 s1.1).fk) 0))))
  ) else (
    some (.go ((addI .i64 s1.1 1), s1.2))
  )
 ) else (
   some (.out (.go s1.2))
 )

noncomputable def gf.loop3 (x0 : Te) (x1 : List Tf) (s3 : Int × Int × Int × Bool × List Td) : Option (Fl (Int × Int × Int × Bool × List Td) (Fl (Int × Bool × List Td) (Te × Int × Bool))) :=
 bif (ltI s3.1 1000) then (
  ((
   need (InB s3.2.1 (lenL x0.fL)) <|
   need (InB s3.2.1 (lenL s3.2.2.2.2)) <|
   ((
    bif (notB s3.2.2.2.1) then (
     need (InB s3.2.1 (lenL x0.fL)) <|
     need (InB s3.2.1 (lenL s3.2.2.2.2)) <|
     need (InB s3.2.1 (lenL x0.fL)) <|
     need (InB s3.2.1 (lenL s3.2.2.2.2)) <|
     need (InB s3.2.1 (lenL x0.fL)) <|
     need (InB s3.2.1 (lenL s3.2.2.2.2)) <|
     some (.go (true, (setI s3.2.2.2.2 s3.2.1 (Td.mk ((nthI s3.2.2.2.2 s3.2.1).fId) ((nthI s3.2.2.2.2 s3.2.1).fk) (addI .i64 ((nthI s3.2.2.2.2 s3.2.1).fp) ((nthI s3.2.2.2.2 s3.2.1).fk))))))
    ) else (
      some (.go (s3.2.2.2.1, s3.2.2.2.2))
    )
    : Option (Fl (Bool × List Td) (Fl (Int × List Td) (Fl (Int × Int × Int × Bool × List Td) (Fl (Int × Bool × List Td) (Te × Int × Bool)))))).bind fun f => flC f fun (v5 : Bool × List Td) =>
    need (InB s3.2.1 (lenL x0.fL)) <|
    need (InB s3.2.1 (lenL v5.2)) <|
    need ((lenL v5.2) = (lenL x0.fL)) <|
    ((gI (Te.mk x0.fb v5.2 ((nthI s3.2.2.2.2 s3.2.1).fId) v5.1) x1 ((nthI s3.2.2.2.2 s3.2.1).fId))).bind fun r5 =>
    bif (leqI r5 ((nthI v5.2 s3.2.1).fp)) then (
     need ((lenL v5.2) = (lenL x0.fL)) <|
     some (.out (.out (.out ((Te.mk x0.fb v5.2 ((nthI s3.2.2.2.2 s3.2.1).fId) v5.1), (nthI s3.2.2.2.2 s3.2.1).fId, true))))
    ) else (
      need ((lenL v5.2) = (lenL x0.fL)) <|
      ((gq (Te.mk x0.fb v5.2 ((nthI s3.2.2.2.2 s3.2.1).fId) v5.1) x1 ((nthI s3.2.2.2.2 s3.2.1).fId))).bind fun r6 =>
      some (.go (r6, v5.2))
    )
   )
   : Option (Fl (Int × List Td) (Fl (Int × Int × Int × Bool × List Td) (Fl (Int × Bool × List Td) (Te × Int × Bool))))).bind fun f => flC f fun (v4 : Int × List Td) =>
   some (.go ((addI .i64 s3.1 1), v4.1, (nthI s3.2.2.2.2 s3.2.1).fId, false, v4.2))
  )
 ) else (
   some (.out (.go (s3.2.2.1, s3.2.2.2.1, s3.2.2.2.2)))
 )

noncomputable def gf (x0 : Te) (x1 : List Tf) : Option (Te × Int × Bool) :=
 need (AppB 0 (lenL x0.fL) 24) <|
 ((loopF (gf.loop1 x0 x1) (0, x0.fL)).bind fun f => flC f fun (v1 : List Td) =>
   need ((lenL v1) = (lenL x0.fL)) <|
   ((gq (Te.mk x0.fb v1 x0.fAt x0.fg) x1 0)).bind fun r2 =>
   bif (ltI r2 0) then (
    need ((lenL v1) = (lenL x0.fL)) <|
    some ((Te.mk x0.fb v1 x0.fAt false), 0, false)
   ) else (
     need ((lenL v1) = (lenL x0.fL)) <|
     ((gS (Te.mk x0.fb v1 x0.fAt x0.fg) x0.fAt)).bind fun r3 =>
     ((
      need (Under (ltI r3 0) false ((lenL v1) = (lenL x0.fL))) <|
      need (Under (ltI r3 0) false ((gI (Te.mk x0.fb v1 x0.fAt x0.fg) x1 x0.fAt).isSome = true)) <|
      bif (pickB (ltI r3 0) true (ltI ((gI (Te.mk x0.fb v1 x0.fAt x0.fg) x1 x0.fAt).getD dflt) 0)) then (
       need ((lenL v1) = (lenL x0.fL)) <|
       ((gq (Te.mk x0.fb v1 x0.fAt x0.fg) x1 x0.fAt)).bind fun r4 =>
       some (.go (r4, false))
      ) else (
        some (.go (r3, x0.fg))
      )
      : Option (Fl (Int × Bool) (Te × Int × Bool))).bind fun f => flC f fun (v2 : Int × Bool) =>
      ((loopF (gf.loop3 x0 x1) (0, v2.1, x0.fAt, v2.2, v1)).bind fun f => flC f fun (v3 : Int × Bool × List Td) =>
        need ((lenL v3.2.2) = (lenL x0.fL)) <|
        some ((Te.mk x0.fb v3.2.2 v3.1 v3.2.1), 0, false)
      )
     )
   )
 )

noncomputable def gay (x0 : Te) (x1 : Int) : Option Te :=
 ((gS x0 x0.fAt)).bind fun r1 =>
 need (Under (pickB (pickB (notB x0.fg) true (ltI r1 0)) true (ltI x1 0)) false (InB r1 (lenL x0.fL))) <|
 bif (pickB (pickB (pickB (notB x0.fg) true (ltI r1 0)) true (ltI x1 0)) true (ltI ((nthI x0.fL r1).fp) x1)) then (
  some x0
 ) else (
   need (AppB 0 (lenL x0.fL) 24) <|
   need (InB r1 (lenL x0.fL)) <|
   need (InB r1 (lenL x0.fL)) <|
   some (Te.mk x0.fb (setI x0.fL r1 (Td.mk ((nthI x0.fL r1).fId) ((nthI x0.fL r1).fk) (subI .i64 ((nthI x0.fL r1).fp) x1))) x0.fAt x0.fg)
 )
end Go.Proofs
end
section
namespace Go.Proofs
open Go.Ab
noncomputable def gaP (x0 : ByteArray) : Option Tj :=
 some (Tj.mk x0 0)

noncomputable def gZ (x0 : Tj) : Option Int :=
 some x0.fE

noncomputable def gJ (x0 : Tj) (x1 : Int) : Option Tj :=
 bif (pickB (eqI x0.fE 0) (neI x1 0) false) then (
  some (Tj.mk ⟨#[]⟩ x1)
 ) else (
   some x0
 )

noncomputable def gah (x0 : Tj) : Option Int :=
 some (lenS x0.fS)

noncomputable def gz (x0 : Tj) (x1 : Int) : Option (ByteArray × Tj) :=
 bif (neI x0.fE 0) then (
  some (⟨#[]⟩, x0)
 ) else (
   bif (ltI x1 0) then (
    ((gJ x0 5)).bind fun r1 =>
    some (⟨#[]⟩, r1)
   ) else (
     bif (ltI (lenS x0.fS) x1) then (
      ((gJ x0 1)).bind fun r2 =>
      some (⟨#[]⟩, r2)
     ) else (
       need (CutB 0 x1 (lenS x0.fS)) <|
       need (CutB x1 (lenS x0.fS) (lenS x0.fS)) <|
       some ((cutS x0.fS 0 x1), (Tj.mk (cutS x0.fS x1 (lenS x0.fS)) x0.fE))
     )
   )
 )

noncomputable def gj.loop1 (r1 : ByteArray × Tj) (s1 : Int × Int) : Option (Fl (Int × Int) (Fl Int (Int × Tj))) :=
 bif (ltI s1.1 (lenL (numsOf r1.1))) then (
  need (InB s1.1 (lenL (numsOf r1.1))) <|
  need (NonN 8) <|
  some (.go ((addI .i64 s1.1 1), (bitsOp .or .u64 (shlI .u64 s1.2 8) (cvtI .u64 (nthI (numsOf r1.1) s1.1)))))
 ) else (
   some (.out (.go s1.2))
 )

noncomputable def gj (x0 : Tj) (x1 : Int) : Option (Int × Tj) :=
 ((gz x0 (minI (maxI x1 1) 8))).bind fun r1 =>
 ((loopF (gj.loop1 r1) (0, 0)).bind fun f => flC f fun (v1 : Int) =>
   some (v1, r1.2)
 )

noncomputable def gac (x0 : Tj) : Option (Int × Tj) :=
 ((gj x0 1)).bind fun r1 =>
 some ((cvtI .u8 r1.1), r1.2)

noncomputable def gM (x0 : Tj) : Option (Int × Tj) :=
 ((gj x0 2)).bind fun r1 =>
 some ((cvtI .u16 r1.1), r1.2)

noncomputable def gN (x0 : Tj) : Option (Int × Tj) :=
 ((gj x0 4)).bind fun r1 =>
 some ((cvtI .u32 r1.1), r1.2)

noncomputable def gP (x0 : Tj) : Option (ByteArray × Tj) :=
 ((gah x0)).bind fun r1 =>
 ((gz x0 r1)).bind fun r2 =>
 some (r2.1, r2.2)
end Go.Proofs
end
