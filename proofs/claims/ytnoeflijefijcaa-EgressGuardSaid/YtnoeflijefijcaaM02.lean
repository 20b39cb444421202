/- The words for a map's keys. No condition. -/
import Derived.Test.YtnoeflijefijcaaKl
import Derived.Test.YtnoeflijefijcaaTs
import Derived.Test.YtnoeflijefijcaaM01
import Derived.Test.YtnoeflijefijcaaSh
section

end
section
namespace Go.Proofs
open Go.Ab
noncomputable def gaC (x0 : Int) : Option (Option Tq × Int) :=
 bif (pickB (ltI x0 1) true (ltI 16777216 x0)) then (
  some (none, 5)
 ) else (
  some ((some (Tq.mk x0 [] [] 0 false)), 0)
 )

noncomputable def gam (x0 : Tq) (x1 : Int) (x2 : Int) : Option (Int × Tq) :=
 bif (pickB (ltI x2 x0.fb) true (ltI 16777216 x2)) then (
  some (5, x0)
 ) else (
  bif (ltI 0 (getM eqI x1 0 x0.fj)) then (
   some (10, x0)
  ) else (
   some (0, (Tq.mk x0.fb (setM eqI x1 x2 x0.fj) x0.fk x0.fAt x0.ff))
  )
 )

noncomputable def gG (x0 : Tq) (x1 : Int) : Option (Int × Tq) :=
 bif (eqI (getM eqI x1 0 x0.fj) 0) then (
  some (12, x0)
 ) else (
  ((
   bif (eqI x0.fAt x1) then (
    some (.go false)
   ) else (
    some (.go x0.ff)
   )
   : Option (Fl Bool (Int × Tq))).bind fun f => flC f fun (v1 : Bool) =>
   some (0, (Tq.mk x0.fb (delM eqI x1 x0.fj) (delM eqI x1 x0.fk) x0.fAt v1))
  )
 )

noncomputable def gB.loop1 (x0 : Tq) (x1 : List Tk) (s1 : Int × (List (Int × Int))) : Option (Fl (Int × (List (Int × Int))) (Fl (List (Int × Int)) (List (Int × Int)))) :=
 bif (ltI s1.1 (lenL x1)) then (
  need (InB s1.1 (lenL x1)) <|
  bif (pickB (pickB (ltI 0 (getM eqI ((nthI x1 s1.1).fId) 0 x0.fj)) (leqI 0 ((nthI x1 s1.1).fm)) false) (leqI ((nthI x1 s1.1).fm) x0.fb) false) then (
   some (.go ((addI .i64 s1.1 1), (setM eqI ((nthI x1 s1.1).fId) ((nthI x1 s1.1).fm) s1.2)))
  ) else (
   some (.go ((addI .i64 s1.1 1), s1.2))
  )
 ) else (
  some (.out (.go s1.2))
 )

noncomputable def gB (x0 : Tq) (x1 : List Tk) : Option (List (Int × Int)) :=
 ((loopF (gB.loop1 x0 x1) (0, [])).bind fun f => flC f fun (v1 : (List (Int × Int))) =>
  some v1
 )

noncomputable def gax (x0 : List Int) (x1 : Int) : Option Int :=
 ((ge x0 x1)).bind fun r1 =>
 ((
  bif r1.2 then (
   some (.go (addI .i64 r1.1 1))
  ) else (
   some (.go r1.1)
  )
  : Option (Fl Int Int)).bind fun f => flC f fun (v1 : Int) =>
  need (NonZ (lenL x0)) <|
  need (InB (remI v1 (lenL x0)) (lenL x0)) <|
  some (nthI x0 (remI v1 (lenL x0)))
 )

noncomputable def gg.loop3 (x0 : Tq) (r1 : (List (Int × Int))) (s3 : Int × Bool × (List (Int × Int))) : Option (Fl (Int × Bool × (List (Int × Int))) (Fl Unit (Int × Bool × Tq))) :=
 ((
  bif (notB s3.2.1) then (
   some (.go (true, (setM eqI s3.1 (addI .i64 (getM eqI s3.1 0 s3.2.2) (getM eqI s3.1 0 x0.fj)) s3.2.2)))
  ) else (
   some (.go (s3.2.1, s3.2.2))
  )
  : Option (Fl (Bool × (List (Int × Int))) (Fl (Int × Bool × (List (Int × Int))) (Fl Unit (Int × Bool × Tq))))).bind fun f => flC f fun (v4 : Bool × (List (Int × Int))) =>
  bif (leqI (getM eqI s3.1 0 r1) (getM eqI s3.1 0 v4.2)) then (
   some (.out (.out (s3.1, true, (Tq.mk x0.fb x0.fj v4.2 s3.1 v4.1))))
  ) else (
   ((gax (sortL (keysM r1)) s3.1)).bind fun r3 =>
   some (.go (r3, false, v4.2))
  )
 )

noncomputable def gg (x0 : Tq) (x1 : List Tk) : Option (Int × Bool × Tq) :=
 ((gB x0 x1)).bind fun r1 =>
 need (KeysB (keysM r1)) <|
 bif (eqI (lenL (sortL (keysM r1))) 0) then (
  some (0, false, (Tq.mk x0.fb x0.fj (keepM (fun k1 => (bif (notB (hasM eqI k1 r1)) then false else true)) x0.fk) x0.fAt false))
 ) else (
  ((
   bif (notB (hasM eqI x0.fAt r1)) then (
    ((gax (sortL (keysM r1)) x0.fAt)).bind fun r2 =>
    some (.go (r2, false))
   ) else (
    some (.go (x0.fAt, x0.ff))
   )
   : Option (Fl (Int × Bool) (Int × Bool × Tq))).bind fun f => flC f fun (v2 : Int × Bool) =>
   ((loopF (gg.loop3 x0 r1) (v2.1, v2.2, (keepM (fun k1 => (bif (notB (hasM eqI k1 r1)) then false else true)) x0.fk))).bind fun f => flC f fun (_v3 : Unit) =>
    none
   )
  )
 )

noncomputable def gaj (x0 : Tq) (x1 : Int) : Option Tq :=
 bif (pickB (pickB x0.ff (leqI 0 x1) false) (leqI x1 (getM eqI x0.fAt 0 x0.fk)) false) then (
  some (Tq.mk x0.fb x0.fj (setM eqI x0.fAt (subI .i64 (getM eqI x0.fAt 0 x0.fk) x1) x0.fk) x0.fAt x0.ff)
 ) else (
  some x0
 )
end Go.Proofs
end
section

end
section
namespace Go.Proofs
open Go.Ab
noncomputable def gC.loop1 (x0 : Tg) (x1 : Bool) (s1 : Int × List Int) : Option (Fl (Int × List Int) (Fl (List Int) (List Int))) :=
 bif (ltI s1.1 (lenL (sortL (keysM x0.fg)))) then (
  need (InB s1.1 (lenL (sortL (keysM x0.fg)))) <|
  optC (findM eqI (nthI (sortL (keysM x0.fg)) s1.1) x0.fg) (
   bif (eqB false x1) then (
    none
   ) else (
    some (.go ((addI .i64 s1.1 1), s1.2))
   )
  ) fun z3 => (
   need (Under (eqB z3.fq x1) true ((gab z3.fA).isSome = true)) <|
   bif (pickB (eqB z3.fq x1) (ltI 0 ((gab z3.fA).getD dflt)) false) then (
    need (AppB (lenL s1.2) 1 8) <|
    some (.go ((addI .i64 s1.1 1), (appL s1.2 [(nthI (sortL (keysM x0.fg)) s1.1)])))
   ) else (
    some (.go ((addI .i64 s1.1 1), s1.2))
   )
  )
 ) else (
  some (.out (.go s1.2))
 )

noncomputable def gC (x0 : Tg) (x1 : Bool) : Option (List Int) :=
 need (KeysB (keysM x0.fg)) <|
 ((loopF (gC.loop1 x0 x1) (0, [])).bind fun f => flC f fun (v1 : List Int) =>
  some v1
 )

noncomputable def gad (x0 : Int) (x1 : Int) (x2 : Tg) : Option Int :=
 optC (findM eqI x0 x2.fg) (
  none
 ) fun z1 => (
  ((gF z1.fA)).bind fun r1 =>
  optC (findM eqI x1 x2.fg) (
   none
  ) fun z2 => (
   ((gF z2.fA)).bind fun r2 =>
   some (subI .i64 r1.1.fy r2.1.fy)
  )
 )

noncomputable def ga.loop2 (x0 : List Int) (x1c0 : Tg) (s2 : Int × Int) : Option (Fl (Int × Int) (Fl Int Int)) :=
 bif (ltI s2.1 (lenL x0)) then (
  ((
   need (InB s2.1 (lenL x0)) <|
   ((gad (nthI x0 s2.1) s2.2 x1c0)).bind fun r1 =>
   bif (ltI r1 0) then (
    need (InB s2.1 (lenL x0)) <|
    some (.go (nthI x0 s2.1))
   ) else (
    some (.go s2.2)
   )
   : Option (Fl Int (Fl (Int × Int) (Fl Int Int)))).bind fun f => flC f fun (v3 : Int) =>
   some (.go ((addI .i64 s2.1 1), v3))
  )
 ) else (
  some (.out (.go s2.2))
 )

noncomputable def ga (x0 : List Int) (x1c0 : Tg) : Option Int :=
 ((
  bif (ltI (lenL x0) 1) then (
   none
  ) else (
   some (.go ())
  )
  : Option (Fl Unit Int)).bind fun f => flC f fun (_v1 : Unit) =>
  need (InB 0 (lenL x0)) <|
  ((loopF (ga.loop2 x0 x1c0) (1, (nthI x0 0))).bind fun f => flC f fun (v2 : Int) =>
   some v2
  )
 )

noncomputable def gak (x0 : Tg) (x1 : List Int) : Option Int :=
 ((ga x1 x0)).bind fun r1 =>
 some r1
end Go.Proofs
end
section
namespace Go.Proofs
open Go.Ab
noncomputable def gP.loop1 (x0 : Tf) (x1 : Int) (s1 : Int) : Option (Fl Int (Fl Unit Int)) :=
 bif (ltI s1 (lenL x0.fL)) then (
  need (InB s1 (lenL x0.fL)) <|
  bif (eqI ((nthI x0.fL s1).fId) x1) then (
   some (.out (.out s1))
  ) else (
   some (.go (addI .i64 s1 1))
  )
 ) else (
  some (.out (.go ()))
 )

noncomputable def gP (x0 : Tf) (x1 : Int) : Option Int :=
 ((loopF (gP.loop1 x0 x1) 0).bind fun f => flC f fun (_v1 : Unit) =>
  some (-1)
 )

noncomputable def gal.loop1 (x0 : Tf) (x1 : Int) (x2 : Int) (s1 : Int × Bool × List Te) : Option (Fl (Int × Bool × List Te) (Fl (Bool × List Te) (Tf × Int))) :=
 bif (ltI s1.1 (lenL x0.fL)) then (
  need (InB s1.1 (lenL x0.fL)) <|
  ((
   bif (pickB (notB s1.2.1) (ltI x1 ((nthI x0.fL s1.1).fId)) false) then (
    need (AppB (lenL s1.2.2) 1 24) <|
    some (.go (true, (appL s1.2.2 [(Te.mk x1 x2 0)])))
   ) else (
    some (.go (s1.2.1, s1.2.2))
   )
   : Option (Fl (Bool × List Te) (Fl (Int × Bool × List Te) (Fl (Bool × List Te) (Tf × Int))))).bind fun f => flC f fun (v2 : Bool × List Te) =>
   need (AppB (lenL v2.2) 1 24) <|
   some (.go ((addI .i64 s1.1 1), v2.1, (appL v2.2 [(nthI x0.fL s1.1)])))
  )
 ) else (
  some (.out (.go (s1.2.1, s1.2.2)))
 )

noncomputable def gal (x0 : Tf) (x1 : Int) (x2 : Int) : Option (Tf × Int) :=
 bif (pickB (ltI x2 x0.fb) true (ltI 16777216 x2)) then (
  some (x0, 5)
 ) else (
  ((gP x0 x1)).bind fun r1 =>
  bif (leqI 0 r1) then (
   some (x0, 10)
  ) else (
   ((loopF (gal.loop1 x0 x1 x2) (0, false, [])).bind fun f => flC f fun (v1 : Bool × List Te) =>
    ((
     bif (notB v1.1) then (
      need (AppB (lenL v1.2) 1 24) <|
      some (.go (appL v1.2 [(Te.mk x1 x2 0)]))
     ) else (
      some (.go v1.2)
     )
     : Option (Fl (List Te) (Tf × Int))).bind fun f => flC f fun (v3 : List Te) =>
     some ((Tf.mk x0.fb v3 x0.fAt x0.ff), 0)
    )
   )
  )
 )

noncomputable def gaf (x0 : Tf) (x1 : Int) : Option (Tf × Int) :=
 ((gP x0 x1)).bind fun r1 =>
 bif (ltI r1 0) then (
  some (x0, 12)
 ) else (
  need (CutB 0 r1 (lenL x0.fL)) <|
  need (AppB 0 (lenL (cutL x0.fL 0 r1)) 24) <|
  need (CutB (addI .i64 r1 1) (lenL x0.fL) (lenL x0.fL)) <|
  need (AppB (lenL (cutL x0.fL 0 r1)) (lenL (cutL x0.fL (addI .i64 r1 1) (lenL x0.fL))) 24) <|
  ((
   bif (eqI x0.fAt x1) then (
    some (.go false)
   ) else (
    some (.go x0.ff)
   )
   : Option (Fl Bool (Tf × Int))).bind fun f => flC f fun (v1 : Bool) =>
   some ((Tf.mk x0.fb (appL (appL [] (cutL x0.fL 0 r1)) (cutL x0.fL (addI .i64 r1 1) (lenL x0.fL))) x0.fAt v1), 0)
  )
 )

noncomputable def gz.loop1 (x0 : Tf) (x1 : List Tk) (x2 : Int) (s1 : Int × Int) : Option (Fl (Int × Int) (Fl Int Int)) :=
 bif (ltI s1.1 (lenL x1)) then (
  need (InB s1.1 (lenL x1)) <|
  bif (pickB (pickB (eqI ((nthI x1 s1.1).fId) x2) (leqI 0 ((nthI x1 s1.1).fm)) false) (leqI ((nthI x1 s1.1).fm) x0.fb) false) then (
   some (.go ((addI .i64 s1.1 1), (nthI x1 s1.1).fm))
  ) else (
   some (.go ((addI .i64 s1.1 1), s1.2))
  )
 ) else (
  some (.out (.go s1.2))
 )

noncomputable def gz (x0 : Tf) (x1 : List Tk) (x2 : Int) : Option Int :=
 ((loopF (gz.loop1 x0 x1 x2) (0, (-1))).bind fun f => flC f fun (v1 : Int) =>
  some v1
 )

noncomputable def gj.loop1 (x0 : Tf) (x1 : List Tk) (x2 : Int) (s1 : Int) : Option (Fl Int (Fl Unit Int)) :=
 bif (ltI s1 (lenL x0.fL)) then (
  need (InB s1 (lenL x0.fL)) <|
  need (Under (ltI x2 ((nthI x0.fL s1).fId)) true ((gz x0 x1 ((nthI x0.fL s1).fId)).isSome = true)) <|
  bif (pickB (ltI x2 ((nthI x0.fL s1).fId)) (leqI 0 ((gz x0 x1 ((nthI x0.fL s1).fId)).getD dflt)) false) then (
   some (.out (.out s1))
  ) else (
   some (.go (addI .i64 s1 1))
  )
 ) else (
  some (.out (.go ()))
 )

noncomputable def gj.loop2 (x0 : Tf) (x1 : List Tk) (s2 : Int) : Option (Fl Int (Fl Unit Int)) :=
 bif (ltI s2 (lenL x0.fL)) then (
  need (InB s2 (lenL x0.fL)) <|
  ((gz x0 x1 ((nthI x0.fL s2).fId))).bind fun r1 =>
  bif (leqI 0 r1) then (
   some (.out (.out s2))
  ) else (
   some (.go (addI .i64 s2 1))
  )
 ) else (
  some (.out (.go ()))
 )

noncomputable def gj (x0 : Tf) (x1 : List Tk) (x2 : Int) : Option Int :=
 ((loopF (gj.loop1 x0 x1 x2) 0).bind fun f => flC f fun (_v1 : Unit) =>
  ((loopF (gj.loop2 x0 x1) 0).bind fun f => flC f fun (_v2 : Unit) =>
   some (-1)
  )
 )

noncomputable def gh.loop1 (x0 : Tf) (x1 : List Tk) (s1 : Int × List Te) : Option (Fl (Int × List Te) (Fl (List Te) (Tf × Int × Bool))) :=
 bif (ltI s1.1 (lenL x0.fL)) then (
  need (InB s1.1 (lenL x0.fL)) <|
  need (InB s1.1 (lenL s1.2)) <|
  ((gz x0 x1 ((nthI s1.2 s1.1).fId))).bind fun r1 =>
  bif (ltI r1 0) then (
   need (InB s1.1 (lenL x0.fL)) <|
   need (InB s1.1 (lenL s1.2)) <|
   some (.go ((addI .i64 s1.1 1), (setI s1.2 s1.1 (Te.mk ((nthI s1.2 s1.1).fId) ((nthI s1.2 s1.1).fj) 0))))
  ) else (
   some (.go ((addI .i64 s1.1 1), s1.2))
  )
 ) else (
  some (.out (.go s1.2))
 )

noncomputable def gh.loop3 (x0 : Tf) (x1 : List Tk) (s3 : Int × Int × Int × Bool × List Te) : Option (Fl (Int × Int × Int × Bool × List Te) (Fl (Int × Bool × List Te) (Tf × Int × Bool))) :=
 bif (ltI s3.1 1000) then (
  ((
   need (InB s3.2.1 (lenL x0.fL)) <|
   need (InB s3.2.1 (lenL s3.2.2.2.2)) <|
   ((
    bif (notB s3.2.2.2.1) then (
     need (InB s3.2.1 (lenL x0.fL)) <|
     need (InB s3.2.1 (lenL s3.2.2.2.2)) <|
     need (InB s3.2.1 (lenL x0.fL)) <|
     need (InB s3.2.1 (lenL s3.2.2.2.2)) <|
     need (InB s3.2.1 (lenL x0.fL)) <|
     need (InB s3.2.1 (lenL s3.2.2.2.2)) <|
     some (.go (true, (setI s3.2.2.2.2 s3.2.1 (Te.mk ((nthI s3.2.2.2.2 s3.2.1).fId) ((nthI s3.2.2.2.2 s3.2.1).fj) (addI .i64 ((nthI s3.2.2.2.2 s3.2.1).fk) ((nthI s3.2.2.2.2 s3.2.1).fj))))))
    ) else (
     some (.go (s3.2.2.2.1, s3.2.2.2.2))
    )
    : Option (Fl (Bool × List Te) (Fl (Int × List Te) (Fl (Int × Int × Int × Bool × List Te) (Fl (Int × Bool × List Te) (Tf × Int × Bool)))))).bind fun f => flC f fun (v5 : Bool × List Te) =>
    need (InB s3.2.1 (lenL x0.fL)) <|
    need (InB s3.2.1 (lenL v5.2)) <|
    need ((lenL v5.2) = (lenL x0.fL)) <|
    ((gz (Tf.mk x0.fb v5.2 ((nthI s3.2.2.2.2 s3.2.1).fId) v5.1) x1 ((nthI s3.2.2.2.2 s3.2.1).fId))).bind fun r5 =>
    bif (leqI r5 ((nthI v5.2 s3.2.1).fk)) then (
     need ((lenL v5.2) = (lenL x0.fL)) <|
     some (.out (.out (.out ((Tf.mk x0.fb v5.2 ((nthI s3.2.2.2.2 s3.2.1).fId) v5.1), (nthI s3.2.2.2.2 s3.2.1).fId, true))))
    ) else (
     need ((lenL v5.2) = (lenL x0.fL)) <|
     ((gj (Tf.mk x0.fb v5.2 ((nthI s3.2.2.2.2 s3.2.1).fId) v5.1) x1 ((nthI s3.2.2.2.2 s3.2.1).fId))).bind fun r6 =>
     some (.go (r6, v5.2))
    )
   )
   : Option (Fl (Int × List Te) (Fl (Int × Int × Int × Bool × List Te) (Fl (Int × Bool × List Te) (Tf × Int × Bool))))).bind fun f => flC f fun (v4 : Int × List Te) =>
   some (.go ((addI .i64 s3.1 1), v4.1, (nthI s3.2.2.2.2 s3.2.1).fId, false, v4.2))
  )
 ) else (
  some (.out (.go (s3.2.2.1, s3.2.2.2.1, s3.2.2.2.2)))
 )

noncomputable def gh (x0 : Tf) (x1 : List Tk) : Option (Tf × Int × Bool) :=
 need (AppB 0 (lenL x0.fL) 24) <|
 ((loopF (gh.loop1 x0 x1) (0, x0.fL)).bind fun f => flC f fun (v1 : List Te) =>
  need ((lenL v1) = (lenL x0.fL)) <|
  ((gj (Tf.mk x0.fb v1 x0.fAt x0.ff) x1 0)).bind fun r2 =>
  bif (ltI r2 0) then (
   need ((lenL v1) = (lenL x0.fL)) <|
   some ((Tf.mk x0.fb v1 x0.fAt false), 0, false)
  ) else (
   need ((lenL v1) = (lenL x0.fL)) <|
   ((gP (Tf.mk x0.fb v1 x0.fAt x0.ff) x0.fAt)).bind fun r3 =>
   ((
    need (Under (ltI r3 0) false ((lenL v1) = (lenL x0.fL))) <|
    need (Under (ltI r3 0) false ((gz (Tf.mk x0.fb v1 x0.fAt x0.ff) x1 x0.fAt).isSome = true)) <|
    bif (pickB (ltI r3 0) true (ltI ((gz (Tf.mk x0.fb v1 x0.fAt x0.ff) x1 x0.fAt).getD dflt) 0)) then (
     need ((lenL v1) = (lenL x0.fL)) <|
     ((gj (Tf.mk x0.fb v1 x0.fAt x0.ff) x1 x0.fAt)).bind fun r4 =>
     some (.go (r4, false))
    ) else (
     some (.go (r3, x0.ff))
    )
    : Option (Fl (Int × Bool) (Tf × Int × Bool))).bind fun f => flC f fun (v2 : Int × Bool) =>
    ((loopF (gh.loop3 x0 x1) (0, v2.1, x0.fAt, v2.2, v1)).bind fun f => flC f fun (v3 : Int × Bool × List Te) =>
     need ((lenL v3.2.2) = (lenL x0.fL)) <|
     some ((Tf.mk x0.fb v3.2.2 v3.1 v3.2.1), 0, false)
    )
   )
  )
 )

noncomputable def gaq (x0 : Tf) (x1 : Int) : Option Tf :=
 ((gP x0 x0.fAt)).bind fun r1 =>
 need (Under (pickB (pickB (notB x0.ff) true (ltI r1 0)) true (ltI x1 0)) false (InB r1 (lenL x0.fL))) <|
 bif (pickB (pickB (pickB (notB x0.ff) true (ltI r1 0)) true (ltI x1 0)) true (ltI ((nthI x0.fL r1).fk) x1)) then (
  some x0
 ) else (
  need (AppB 0 (lenL x0.fL) 24) <|
  need (InB r1 (lenL x0.fL)) <|
  need (InB r1 (lenL x0.fL)) <|
  some (Tf.mk x0.fb (setI x0.fL r1 (Te.mk ((nthI x0.fL r1).fId) ((nthI x0.fL r1).fj) (subI .i64 ((nthI x0.fL r1).fk) x1))) x0.fAt x0.ff)
 )
end Go.Proofs
end
section
namespace Go.Proofs
open Go.Ab Go.Shelf
theorem libKeys.gMapsKeysMapIntIntIntInt.ok : SpecOk Try.prog 78 (keysS 93) :=
  keys_ok Try.keysAD rfl rfl (enters_of Try.func78 (by kernel_rfl) rfl)
theorem Try.sortsD (m : Nat) : AnyZI.SortsIn Try.prog Try.sortedAD_ren Fence.wide m :=
  ⟨fun blk off cap ss W hH hblk hsz => callsIn_wide.2 (AnyM.slices_Sort_int Try.sortAD blk off cap ss W hH hblk hsz),
   fun p cap W => callsIn_wide.2 (AnyM.slices_Sort_int_none Try.sortAD p cap W)⟩
theorem libSorted.gSlicesSortedInt.ok : SpecOk Try.prog 35 (sortedS 93) :=
  sorted_ok Try.sortedAD { Try.keysAD with } rfl rfl (enters_of Try.func35 (by kernel_rfl) rfl) Try.sortsD (enters_of Try.func58 (by kernel_rfl) rfl) (enters_of Try.func93 (by kernel_rfl) rfl)
end Go.Proofs
end
section
namespace Go.Proofs
open Go.Ab Go.Shelf
theorem libKeys.gaD.ok : SpecOk Try.prog 36 (keysS 59) :=
  keys_ok Try.keysAE rfl rfl (enters_of Try.func36 (by kernel_rfl) rfl)
theorem Try.sortsE (m : Nat) : AnyZI.SortsIn Try.prog Try.sortedAD_ren Fence.wide m :=
  ⟨fun blk off cap ss W hH hblk hsz => callsIn_wide.2 (AnyM.slices_Sort_int Try.sortAD blk off cap ss W hH hblk hsz),
   fun p cap W => callsIn_wide.2 (AnyM.slices_Sort_int_none Try.sortAD p cap W)⟩
theorem libSorted.gaE.ok : SpecOk Try.prog 35 (sortedS 59) :=
  sorted_ok Try.sortedAD { Try.keysAE with } rfl rfl (enters_of Try.func35 (by kernel_rfl) rfl) Try.sortsE (enters_of Try.func58 (by kernel_rfl) rfl) (enters_of Try.func59 (by kernel_rfl) rfl)
end Go.Proofs
end
