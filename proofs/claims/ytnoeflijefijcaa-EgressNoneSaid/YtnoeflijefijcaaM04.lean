/- What these functions compute, as plain functions. No condition. -/
import Derived.Test.YtnoeflijefijcaaTs
import Derived.Test.YtnoeflijefijcaaM03
import Derived.Test.YtnoeflijefijcaaM01
import Derived.Test.YtnoeflijefijcaaM02
section
namespace Go.Proofs
open Go.Ab
noncomputable def gQ (x0 : Int) (x1 : Int) : Option Tl :=
 need (NonN 3) <|
 need (NonN 6) <|
 need (NonN 8) <|
 some (Tl.mk (addI .i64 1 (bitsOp .and .i64 x0 7)) (addI .i64 16 (bitsOp .and .i64 x1 63)) (addI .i64 1 (bitsOp .and .i64 (shrI .i64 x0 3) 31)) (addI .i64 1 (bitsOp .and .i64 (shrI .i64 x1 6) 31)) (addI .i64 1 (bitsOp .and .i64 (shrI .i64 x0 8) 3)))

noncomputable def gE.loop1  (s1 : Int × (List (Int × Int)) × (List (Int × Int)) × Int × Int × Bool × (List (Int × Td)) × Tl × Int × Int) : Option (Fl (Int × (List (Int × Int)) × (List (Int × Int)) × Int × Int × Bool × (List (Int × Td)) × Tl × Int × Int) (Fl ((List (Int × Int)) × (List (Int × Int)) × Int × Int × Bool × (List (Int × Td)) × Tl × Int × Int) Bool)) :=
 bif (ltI s1.1 3) then (
  ((gI (Tg.mk s1.2.2.2.2.2.2.2.1 s1.2.2.2.2.2.2.1 (Tq.mk s1.2.2.2.1 s1.2.1 s1.2.2.1 s1.2.2.2.2.1 s1.2.2.2.2.2.1) s1.2.2.2.2.2.2.2.2.1 s1.2.2.2.2.2.2.2.2.2) 1 (Ta.mk s1.1 1 0 false))).bind fun r4 =>
  some (.go ((addI .i64 s1.1 1), r4.2.2.fa.fj, r4.2.2.fa.fk, r4.2.2.fa.fb, r4.2.2.fa.fAt, r4.2.2.fa.ff, r4.2.2.fg, r4.2.2.fe, r4.2.2.fc, r4.2.2.fd))
 ) else (
  some (.out (.go (s1.2.1, s1.2.2.1, s1.2.2.2.1, s1.2.2.2.2.1, s1.2.2.2.2.2.1, s1.2.2.2.2.2.2.1, s1.2.2.2.2.2.2.2.1, s1.2.2.2.2.2.2.2.2.1, s1.2.2.2.2.2.2.2.2.2)))
 )

noncomputable def gE : Option Bool :=
 ((gar (Tl.mk 9 99 9 9 2))).bind fun r1 =>
 optC r1.1 (
  bif (pickB (neI r1.2 0) true true) then (
   some false
  ) else (
   none
  )
 ) fun o1 => (
  bif (pickB (neI r1.2 0) true false) then (
   some false
  ) else (
   ((gN o1 1 false 0)).bind fun r2 =>
   bif (neI r2.1 0) then (
    some false
   ) else (
    ((gN r2.2 2 true 9)).bind fun r3 =>
    bif (neI r3.1 0) then (
     some false
    ) else (
     ((loopF gE.loop1 (0, r3.2.fa.fj, r3.2.fa.fk, r3.2.fa.fb, r3.2.fa.fAt, r3.2.fa.ff, r3.2.fg, r3.2.fe, r3.2.fc, r3.2.fd)).bind fun f => flC f fun (v1 : (List (Int × Int)) × (List (Int × Int)) × Int × Int × Bool × (List (Int × Td)) × Tl × Int × Int) =>
      ((gI (Tg.mk v1.2.2.2.2.2.2.1 v1.2.2.2.2.2.1 (Tq.mk v1.2.2.1 v1.1 v1.2.1 v1.2.2.2.1 v1.2.2.2.2.1) v1.2.2.2.2.2.2.2.1 v1.2.2.2.2.2.2.2.2) 2 (Ta.mk 9 5 0 true))).bind fun r5 =>
      ((gT r5.2.2 100)).bind fun r6 =>
      ((gt r6)).bind fun r7 =>
      need (Under (eqI (lenL r7.1) 4) true (InB 0 (lenL r7.1))) <|
      need (Under (pickB (eqI (lenL r7.1) 4) (eqI ((nthI r7.1 0).fId) 1) false) true (InB 1 (lenL r7.1))) <|
      need (Under (pickB (pickB (eqI (lenL r7.1) 4) (eqI ((nthI r7.1 0).fId) 1) false) (eqI ((nthI r7.1 1).fId) 1) false) true (InB 2 (lenL r7.1))) <|
      need (Under (pickB (pickB (pickB (eqI (lenL r7.1) 4) (eqI ((nthI r7.1 0).fId) 1) false) (eqI ((nthI r7.1 1).fId) 1) false) (eqI ((nthI r7.1 2).fId) 2) false) true (InB 3 (lenL r7.1))) <|
      need (Under (pickB (pickB (pickB (pickB (eqI (lenL r7.1) 4) (eqI ((nthI r7.1 0).fId) 1) false) (eqI ((nthI r7.1 1).fId) 1) false) (eqI ((nthI r7.1 2).fId) 2) false) (eqI ((nthI r7.1 3).fId) 1) false) true ((gp r7.2).isSome = true)) <|
      some (pickB (pickB (pickB (pickB (pickB (eqI (lenL r7.1) 4) (eqI ((nthI r7.1 0).fId) 1) false) (eqI ((nthI r7.1 1).fId) 1) false) (eqI ((nthI r7.1 2).fId) 2) false) (eqI ((nthI r7.1 3).fId) 1) false) (eqI ((gp r7.2).getD dflt) 92) false)
     )
    )
   )
  )
 )

noncomputable def gan (x0 : Tl) : Option (Ts × Bool) :=
 ((gar x0)).bind fun r1 =>
 optC r1.1 (
  none
 ) fun o1 => (
  some ((Ts.mk o1 (Tb.mk x0.fh x0.fo x0.fu x0.fb x0.fp [] (Tf.mk x0.fb [] 0 false) 0 0) 0 0), (pickB (eqI r1.2 0) true false))
 )

noncomputable def gO.loop1 (x0 : List Tc) (x1 : List Tc) (s1 : Int) : Option (Fl Int (Fl Unit Int)) :=
 bif (ltI s1 (lenL x1)) then (
  need (InB s1 (lenL x0)) <|
  need (InB s1 (lenL x1)) <|
  need (Under (neI ((nthI x0 s1).fId) ((nthI x1 s1).fId)) false (InB s1 (lenL x0))) <|
  need (Under (neI ((nthI x0 s1).fId) ((nthI x1 s1).fId)) false (InB s1 (lenL x1))) <|
  bif (pickB (neI ((nthI x0 s1).fId) ((nthI x1 s1).fId)) true (notB (pickB (eqI ((nthI x0 s1).fC.fN) ((nthI x1 s1).fC.fN)) (pickB (eqI ((nthI x0 s1).fC.fm) ((nthI x1 s1).fC.fm)) (pickB (eqI ((nthI x0 s1).fC.fy) ((nthI x1 s1).fC.fy)) (eqB ((nthI x0 s1).fC.fz) ((nthI x1 s1).fC.fz)) false) false) false))) then (
   some (.out (.out (-1)))
  ) else (
   some (.go (addI .i64 s1 1))
  )
 ) else (
  some (.out (.go ()))
 )

noncomputable def gO (x0 : List Tc) (x1 : List Tc) : Option Int :=
 bif (neI (lenL x0) (lenL x1)) then (
  some (-1)
 ) else (
  ((loopF (gO.loop1 x0 x1) 0).bind fun f => flC f fun (_v1 : Unit) =>
   some 0
  )
 )

noncomputable def gat.loop1 (x0 : Ts) (s1 : Int) : Option (Fl Int (Fl Unit Int)) :=
 bif (ltI s1 (lenL x0.fX.fL)) then (
  need (InB s1 (lenL x0.fX.fL)) <|
  ((gL x0.fO ((nthI x0.fX.fL s1).fId))).bind fun r2 =>
  need (Under (neI r2.1 (lenL ((nthI x0.fX.fL s1).fQ.fL))) false ((gJ ((nthI x0.fX.fL s1).fQ.fL)).isSome = true)) <|
  need (Under (pickB (neI r2.1 (lenL ((nthI x0.fX.fL s1).fQ.fL))) true (neI r2.2 ((gJ ((nthI x0.fX.fL s1).fQ.fL)).getD dflt))) false ((gV x0.fO ((nthI x0.fX.fL s1).fId)).isSome = true)) <|
  bif (pickB (pickB (pickB (pickB (neI r2.1 (lenL ((nthI x0.fX.fL s1).fQ.fL))) true (neI r2.2 ((gJ ((nthI x0.fX.fL s1).fQ.fL)).getD dflt))) true (neB ((gV x0.fO ((nthI x0.fX.fL s1).fId)).getD dflt) ((nthI x0.fX.fL s1).fQ.fv))) true (ltI x0.fX.fh r2.1)) true (ltI x0.fX.fo r2.2)) then (
   some (.out (.out (-1)))
  ) else (
   some (.go (addI .i64 s1 1))
  )
 ) else (
  some (.out (.go ()))
 )

noncomputable def gat (x0 : Ts) : Option Int :=
 ((gp x0.fO)).bind fun r1 =>
 bif (neI r1 x0.fX.fc) then (
  some (-1)
 ) else (
  ((loopF (gat.loop1 x0) 0).bind fun f => flC f fun (_v1 : Unit) =>
   some 0
  )
 )
end Go.Proofs
end
section
namespace Go.Proofs
open Go.Ab
noncomputable def gD.loop1 (x0 : Tb) (x1 : Int) (s1 : Int) : Option (Fl Int (Fl Unit Int)) :=
 bif (ltI s1 (lenL x0.fL)) then (
  need (InB s1 (lenL x0.fL)) <|
  bif (eqI ((nthI x0.fL s1).fId) x1) then (
   some (.out (.out s1))
  ) else (
   some (.go (addI .i64 s1 1))
  )
 ) else (
  some (.out (.go ()))
 )

noncomputable def gD (x0 : Tb) (x1 : Int) : Option Int :=
 ((loopF (gD.loop1 x0 x1) 0).bind fun f => flC f fun (_v1 : Unit) =>
  some (-1)
 )

noncomputable def gai.loop1 (x0 : Int) (x1 : List Ta) (s1 : Int × List Tc) : Option (Fl (Int × List Tc) (Fl (List Tc) (List Tc))) :=
 bif (ltI s1.1 (lenL x1)) then (
  need (InB s1.1 (lenL x1)) <|
  need (AppB (lenL s1.2) 1 40) <|
  some (.go ((addI .i64 s1.1 1), (appL s1.2 [(Tc.mk x0 (nthI x1 s1.1))])))
 ) else (
  some (.out (.go s1.2))
 )

noncomputable def gai (x0 : Int) (x1 : List Ta) : Option (List Tc) :=
 ((loopF (gai.loop1 x0 x1) (0, [])).bind fun f => flC f fun (v1 : List Tc) =>
  some v1
 )

noncomputable def gah.loop2 (x1 : Int) (v1 : Tb × Bool) (s2 : Int × Bool × List Tj) : Option (Fl (Int × Bool × List Tj) (Fl (Bool × List Tj) (Tb × Int))) :=
 bif (ltI s2.1 (lenL v1.1.fL)) then (
  need (InB s2.1 (lenL v1.1.fL)) <|
  ((
   bif (pickB (notB s2.2.1) (ltI x1 ((nthI v1.1.fL s2.1).fId)) false) then (
    need (AppB (lenL s2.2.2) 1 64) <|
    some (.go (true, (appL s2.2.2 [(Tj.mk x1 v1.2 (Tn.mk v1.1.fh v1.1.fo [] true))])))
   ) else (
    some (.go (s2.2.1, s2.2.2))
   )
   : Option (Fl (Bool × List Tj) (Fl (Int × Bool × List Tj) (Fl (Bool × List Tj) (Tb × Int))))).bind fun f => flC f fun (v3 : Bool × List Tj) =>
   need (AppB (lenL v3.2) 1 64) <|
   some (.go ((addI .i64 s2.1 1), v3.1, (appL v3.2 [(nthI v1.1.fL s2.1)])))
  )
 ) else (
  some (.out (.go (s2.2.1, s2.2.2)))
 )

noncomputable def gah (x0 : Tb) (x1 : Int) (x2 : Bool) (x3 : Int) : Option (Tb × Int) :=
 ((gD x0 x1)).bind fun r1 =>
 bif (leqI 0 r1) then (
  some (x0, 10)
 ) else (
  ((
   bif x2 then (
    ((gal x0.fS x1 x3)).bind fun r2 =>
    bif (neI r2.2 0) then (
     some (.out (x0, r2.2))
    ) else (
     some (.go ((Tb.mk x0.fh x0.fo x0.fu x0.fb x0.fp x0.fL r2.1 x0.fc x0.fd), true))
    )
   ) else (
    some (.go (x0, false))
   )
   : Option (Fl (Tb × Bool) (Tb × Int))).bind fun f => flC f fun (v1 : Tb × Bool) =>
   ((loopF (gah.loop2 x1 v1) (0, false, [])).bind fun f => flC f fun (v2 : Bool × List Tj) =>
    ((
     bif (notB v2.1) then (
      need (AppB (lenL v2.2) 1 64) <|
      some (.go (appL v2.2 [(Tj.mk x1 v1.2 (Tn.mk v1.1.fh v1.1.fo [] true))]))
     ) else (
      some (.go v2.2)
     )
     : Option (Fl (List Tj) (Tb × Int))).bind fun f => flC f fun (v4 : List Tj) =>
     some ((Tb.mk v1.1.fh v1.1.fo v1.1.fu v1.1.fb v1.1.fp v4 v1.1.fS v1.1.fc v1.1.fd), 0)
    )
   )
  )
 )

noncomputable def gav (x0 : Tb) (x1 : Int) (x2 : Tn) : Option Tb :=
 need (AppB 0 (lenL x0.fL) 64) <|
 need (InB x1 (lenL x0.fL)) <|
 some (Tb.mk x0.fh x0.fo x0.fu x0.fb x0.fp (setI x0.fL x1 (Tj.mk ((nthI x0.fL x1).fId) ((nthI x0.fL x1).fq) x2)) x0.fS x0.fc x0.fd)

noncomputable def gau (x0 : Tb) (x1 : Int) : Option (Tb × List Tc × Int) :=
 ((gD x0 x1)).bind fun r1 =>
 bif (ltI r1 0) then (
  some (x0, [], 12)
 ) else (
  need (InB r1 (lenL x0.fL)) <|
  ((gaf x0.fS x1)).bind fun r2 =>
  need (CutB 0 r1 (lenL x0.fL)) <|
  need (AppB 0 (lenL (cutL x0.fL 0 r1)) 64) <|
  need (CutB (addI .i64 r1 1) (lenL x0.fL) (lenL x0.fL)) <|
  need (AppB (lenL (cutL x0.fL 0 r1)) (lenL (cutL x0.fL (addI .i64 r1 1) (lenL x0.fL))) 64) <|
  ((gai x1 ((nthI x0.fL r1).fQ.fL))).bind fun r3 =>
  some ((Tb.mk x0.fh x0.fo x0.fu x0.fb x0.fp (appL (appL [] (cutL x0.fL 0 r1)) (cutL x0.fL (addI .i64 r1 1) (lenL x0.fL))) r2.1 x0.fc x0.fd), r3, 0)
 )

noncomputable def gay (x0 : Tb) (x1 : Int) : Option (Tb × List Tc) :=
 ((gD x0 x1)).bind fun r1 =>
 bif (ltI r1 0) then (
  some (x0, [])
 ) else (
  need (InB r1 (lenL x0.fL)) <|
  ((gai x1 ((nthI x0.fL r1).fQ.fL))).bind fun r2 =>
  ((gav x0 r1 (Tn.mk ((nthI x0.fL r1).fQ.fh) ((nthI x0.fL r1).fQ.fb) [] true))).bind fun r3 =>
  some (r3, r2)
 )

noncomputable def gaB (x0 : Tb) (x1 : Int) (x2 : Ta) : Option (Tb × List Tc × Bool) :=
 ((gD x0 x1)).bind fun r1 =>
 bif (pickB (ltI r1 0) true (ltI x0.fb x2.fm)) then (
  some (x0, [], false)
 ) else (
  need (Under x2.fz false (InB r1 (lenL x0.fL))) <|
  need (InB r1 (lenL x0.fL)) <|
  ((gX ((nthI x0.fL r1).fQ) (Ta.mk x2.fN x2.fm x2.fy (pickB x2.fz true (notB ((nthI x0.fL r1).fq)))))).bind fun r2 =>
  ((gav x0 r1 r2.1)).bind fun r3 =>
  ((gai x1 r2.2.1)).bind fun r4 =>
  some (r3, r4, r2.2.2)
 )

noncomputable def gA.loop1 (x0 : Tb) (s1 : Int × List Tk × Int) : Option (Fl (Int × List Tk × Int) (Fl (List Tk × Int) (Tb × Int))) :=
 bif (ltI s1.1 (lenL x0.fL)) then (
  need (InB s1.1 (lenL x0.fL)) <|
  bif (eqI (lenL ((nthI x0.fL s1.1).fQ.fL)) 0) then (
   some (.go ((addI .i64 s1.1 1), s1.2.1, s1.2.2))
  ) else (
   bif (nthI x0.fL s1.1).fq then (
    need (InB 0 (lenL ((nthI x0.fL s1.1).fQ.fL))) <|
    need (AppB (lenL s1.2.1) 1 16) <|
    some (.go ((addI .i64 s1.1 1), (appL s1.2.1 [(Tk.mk ((nthI x0.fL s1.1).fId) ((nthI ((nthI x0.fL s1.1).fQ.fL) 0).fm))]), s1.2.2))
   ) else (
    need (Under (ltI s1.2.2 0) false (InB 0 (lenL ((nthI x0.fL s1.1).fQ.fL)))) <|
    need (Under (ltI s1.2.2 0) false (InB s1.2.2 (lenL x0.fL))) <|
    need (Under (ltI s1.2.2 0) false (InB 0 (lenL ((nthI x0.fL s1.2.2).fQ.fL)))) <|
    bif (pickB (ltI s1.2.2 0) true (ltI ((nthI ((nthI x0.fL s1.1).fQ.fL) 0).fy) ((nthI ((nthI x0.fL s1.2.2).fQ.fL) 0).fy))) then (
     some (.go ((addI .i64 s1.1 1), s1.2.1, s1.1))
    ) else (
     some (.go ((addI .i64 s1.1 1), s1.2.1, s1.2.2))
    )
   )
  )
 ) else (
  some (.out (.go (s1.2.1, s1.2.2)))
 )

noncomputable def gA (x0 : Tb) : Option (Tb × Int) :=
 ((loopF (gA.loop1 x0) (0, [], (-1))).bind fun f => flC f fun (v1 : List Tk × Int) =>
  bif (pickB (leqI 0 v1.2) (pickB (ltI x0.fd x0.fp) true (eqI (lenL v1.1) 0)) false) then (
   some (x0, v1.2)
  ) else (
   ((gh x0.fS v1.1)).bind fun r1 =>
   bif (notB r1.2.2) then (
    some ((Tb.mk x0.fh x0.fo x0.fu x0.fb x0.fp x0.fL r1.1 x0.fc x0.fd), (-1))
   ) else (
    ((gD (Tb.mk x0.fh x0.fo x0.fu x0.fb x0.fp x0.fL r1.1 x0.fc x0.fd) r1.2.1)).bind fun r2 =>
    some ((Tb.mk x0.fh x0.fo x0.fu x0.fb x0.fp x0.fL r1.1 x0.fc x0.fd), r2)
   )
  )
 )

noncomputable def gac.loop1  (s1 : Int × List Tc × Tb) : Option (Fl (Int × List Tc × Tb) (Fl (List Tc × Tb) (Tb × List Tc))) :=
 bif (ltI s1.1 100000) then (
  ((
   ((gA s1.2.2)).bind fun r1 =>
   bif (ltI r1.2 0) then (
    some (.out (.out (.out (r1.1, s1.2.1))))
   ) else (
    need (InB r1.2 (lenL r1.1.fL)) <|
    need (InB 0 (lenL ((nthI r1.1.fL r1.2).fQ.fL))) <|
    bif (ltI r1.1.fc ((nthI ((nthI r1.1.fL r1.2).fQ.fL) 0).fm)) then (
     some (.out (.out (.out (r1.1, s1.2.1))))
    ) else (
     need (CutB 1 (lenL ((nthI r1.1.fL r1.2).fQ.fL)) (lenL ((nthI r1.1.fL r1.2).fQ.fL))) <|
     ((gav r1.1 r1.2 (Tn.mk ((nthI r1.1.fL r1.2).fQ.fh) ((nthI r1.1.fL r1.2).fQ.fb) (cutL ((nthI r1.1.fL r1.2).fQ.fL) 1 (lenL ((nthI r1.1.fL r1.2).fQ.fL))) ((nthI r1.1.fL r1.2).fQ.fv)))).bind fun r2 =>
     ((
      bif (nthI r1.1.fL r1.2).fq then (
       ((gaq r2.fS ((nthI ((nthI r1.1.fL r1.2).fQ.fL) 0).fm))).bind fun r3 =>
       some (.go ((Tb.mk r2.fh r2.fo r2.fu r2.fb r2.fp r2.fL r3 (subI .i64 r2.fc ((nthI ((nthI r1.1.fL r1.2).fQ.fL) 0).fm)) 0), (Tj.mk ((nthI r1.1.fL r1.2).fId) true ((nthI r1.1.fL r1.2).fQ))))
      ) else (
       some (.go ((Tb.mk r2.fh r2.fo r2.fu r2.fb r2.fp r2.fL r2.fS (subI .i64 r2.fc ((nthI ((nthI r1.1.fL r1.2).fQ.fL) 0).fm)) (addI .i64 r2.fd 1)), (Tj.mk ((nthI r1.1.fL r1.2).fId) false ((nthI r1.1.fL r1.2).fQ))))
      )
      : Option (Fl (Tb × Tj) (Fl (List Tc × Tb) (Fl (Int × List Tc × Tb) (Fl (List Tc × Tb) (Tb × List Tc)))))).bind fun f => flC f fun (v3 : Tb × Tj) =>
      need (AppB (lenL s1.2.1) 1 40) <|
      some (.go ((appL s1.2.1 [(Tc.mk v3.2.fId (nthI ((nthI r1.1.fL r1.2).fQ.fL) 0))]), v3.1))
     )
    )
   )
   : Option (Fl (List Tc × Tb) (Fl (Int × List Tc × Tb) (Fl (List Tc × Tb) (Tb × List Tc))))).bind fun f => flC f fun (v2 : List Tc × Tb) =>
   some (.go ((addI .i64 s1.1 1), v2.1, v2.2))
  )
 ) else (
  some (.out (.go (s1.2.1, s1.2.2)))
 )

noncomputable def gac (x0 : Tb) : Option (Tb × List Tc) :=
 ((loopF gac.loop1 (0, [], x0)).bind fun f => flC f fun (v1 : List Tc × Tb) =>
  some (v1.2, v1.1)
 )

noncomputable def gag.loop1 (x0 : Tb) (x1 : Int) (s1 : Int × List Tc × Tb) : Option (Fl (Int × List Tc × Tb) (Fl (List Tc × Tb) (Tb × List Tc))) :=
 bif (ltI s1.1 (lenL x0.fL)) then (
  need (InB s1.1 (lenL x0.fL)) <|
  ((gR ((nthI x0.fL s1.1).fQ) x1 s1.2.2.fu)).bind fun r1 =>
  ((gav s1.2.2 s1.1 r1.1)).bind fun r2 =>
  ((gai ((nthI x0.fL s1.1).fId) r1.2)).bind fun r3 =>
  need (AppB (lenL s1.2.1) (lenL r3) 40) <|
  some (.go ((addI .i64 s1.1 1), (appL s1.2.1 r3), r2))
 ) else (
  some (.out (.go (s1.2.1, s1.2.2)))
 )

noncomputable def gag (x0 : Tb) (x1 : Int) : Option (Tb × List Tc) :=
 ((loopF (gag.loop1 x0 x1) (0, [], x0)).bind fun f => flC f fun (v1 : List Tc × Tb) =>
  some (v1.2, v1.1)
 )
end Go.Proofs
end
section
namespace Go.Proofs
open Go.Ab
noncomputable def gaw (x0 : Ts) (x1 : Th) : Option (Ts × Bool) :=
 bif (eqI x1.fw 5) then (
  ((gN x0.fO x1.fId x1.fq x1.fN)).bind fun r1 =>
  ((gah x0.fX x1.fId x1.fq x1.fN)).bind fun r2 =>
  some ((Ts.mk r1.2 r2.1 x0.fB x0.fN), (eqI r1.1 r2.2))
 ) else (
  bif (eqI x1.fw 6) then (
   ((gH x0.fO x1.fId)).bind fun r3 =>
   ((gau x0.fX x1.fId)).bind fun r4 =>
   need (Under (eqI r3.2.1 r4.2.2) true ((gO r3.1 r4.2.1).isSome = true)) <|
   some ((Ts.mk r3.2.2 r4.1 x0.fB x0.fN), (pickB (eqI r3.2.1 r4.2.2) (eqI ((gO r3.1 r4.2.1).getD dflt) 0) false))
  ) else (
   ((gae x0.fO x1.fId)).bind fun r5 =>
   ((gay x0.fX x1.fId)).bind fun r6 =>
   ((gO r5.1 r6.2)).bind fun r7 =>
   some ((Ts.mk r5.2 r6.1 x0.fB x0.fN), (eqI r7 0))
  )
 )

noncomputable def gy (x0 : Ts) (x1 : Th) : Option (Ts × List Tc × Bool) :=
 ((
  bif (eqI x1.fw 1) then (
   ((gI x0.fO x1.fId (Ta.mk (addI .i64 x0.fN 1) x1.fN x0.fB x1.fz))).bind fun r1 =>
   ((gaB x0.fX x1.fId (Ta.mk (addI .i64 x0.fN 1) x1.fN x0.fB x1.fz))).bind fun r2 =>
   need (Under (eqB r1.2.1 r2.2.2) true ((gO r1.1 r2.2.1).isSome = true)) <|
   some (.out ((Ts.mk r1.2.2 r2.1 x0.fB (addI .i64 x0.fN 1)), [], (pickB (eqB r1.2.1 r2.2.2) (eqI ((gO r1.1 r2.2.1).getD dflt) 0) false)))
  ) else (
   bif (eqI x1.fw 2) then (
    ((
     bif x1.fz then (
      ((gu x0.fO x1.fId)).bind fun r3 =>
      bif (neB r3.1 (pickB (leqI 0 x1.fId) (leqI x1.fId x0.fX.fc) false)) then (
       some (.out (.out ((Ts.mk r3.2 x0.fX x0.fB x0.fN), [], false)))
      ) else (
       bif r3.1 then (
        some (.go (r3.2.fe, r3.2.fc, r3.2.fd, r3.2.fg, r3.2.fa.fb, r3.2.fa.fAt, r3.2.fa.ff, r3.2.fa.fj, r3.2.fa.fk, (Tb.mk x0.fX.fh x0.fX.fo x0.fX.fu x0.fX.fb x0.fX.fp x0.fX.fL x0.fX.fS (subI .i64 x0.fX.fc x1.fId) x0.fX.fd), (Th.mk x1.fw x1.fId x1.fN true x1.fq)))
       ) else (
        some (.go (r3.2.fe, r3.2.fc, r3.2.fd, r3.2.fg, r3.2.fa.fb, r3.2.fa.fAt, r3.2.fa.ff, r3.2.fa.fj, r3.2.fa.fk, x0.fX, (Th.mk x1.fw x1.fId x1.fN true x1.fq)))
       )
      )
     ) else (
      some (.go (x0.fO.fe, x0.fO.fc, x0.fO.fd, x0.fO.fg, x0.fO.fa.fb, x0.fO.fa.fAt, x0.fO.fa.ff, x0.fO.fa.fj, x0.fO.fa.fk, x0.fX, (Th.mk x1.fw x1.fId x1.fN false x1.fq)))
     )
     : Option (Fl (Tl × Int × Int × (List (Int × Td)) × Int × Int × Bool × (List (Int × Int)) × (List (Int × Int)) × Tb × Th) (Fl (Tl × Int × Int × (List (Int × Td)) × Int × Int × Bool × (List (Int × Int)) × (List (Int × Int)) × Tb × Th) (Ts × List Tc × Bool)))).bind fun f => flC f fun (v2 : Tl × Int × Int × (List (Int × Td)) × Int × Int × Bool × (List (Int × Int)) × (List (Int × Int)) × Tb × Th) =>
     ((gT (Tg.mk v2.1 v2.2.2.2.1 (Tq.mk v2.2.2.2.2.1 v2.2.2.2.2.2.2.2.1 v2.2.2.2.2.2.2.2.2.1 v2.2.2.2.2.2.1 v2.2.2.2.2.2.2.1) v2.2.1 v2.2.2.1) v2.2.2.2.2.2.2.2.2.2.2.fN)).bind fun r4 =>
     some (.go (r4.fe, r4.fc, r4.fd, r4.fg, r4.fa.fb, r4.fa.fAt, r4.fa.ff, r4.fa.fj, r4.fa.fk, (Tb.mk v2.2.2.2.2.2.2.2.2.2.1.fh v2.2.2.2.2.2.2.2.2.2.1.fo v2.2.2.2.2.2.2.2.2.2.1.fu v2.2.2.2.2.2.2.2.2.2.1.fb v2.2.2.2.2.2.2.2.2.2.1.fp v2.2.2.2.2.2.2.2.2.2.1.fL v2.2.2.2.2.2.2.2.2.2.1.fS (minI (addI .i64 v2.2.2.2.2.2.2.2.2.2.1.fc (minI (maxI v2.2.2.2.2.2.2.2.2.2.2.fN 0) 1099511627776)) 1099511627776) v2.2.2.2.2.2.2.2.2.2.1.fd), v2.2.2.2.2.2.2.2.2.2.2))
    )
   ) else (
    bif (eqI x1.fw 3) then (
     ((gt x0.fO)).bind fun r5 =>
     ((gac x0.fX)).bind fun r6 =>
     ((gO r5.1 r6.2)).bind fun r7 =>
     some (.out ((Ts.mk r5.2 r6.1 x0.fB x0.fN), r6.2, (eqI r7 0)))
    ) else (
     bif (eqI x1.fw 4) then (
      ((gq x0.fO (addI .i64 x0.fB (bitsOp .and .i64 x1.fN 15)))).bind fun r8 =>
      ((gag x0.fX (addI .i64 x0.fB (bitsOp .and .i64 x1.fN 15)))).bind fun r9 =>
      ((gO r8.1 r9.2)).bind fun r10 =>
      some (.out ((Ts.mk r8.2 r9.1 (addI .i64 x0.fB (bitsOp .and .i64 x1.fN 15)) x0.fN), [], (eqI r10 0)))
     ) else (
      ((
       bif (eqI x1.fw 5) then (
        some (.go true)
       ) else (
        bif (eqI x1.fw 6) then (
         some (.go true)
        ) else (
         some (.go (eqI x1.fw 7))
        )
       )
       : Option (Fl Bool (Fl (Tl × Int × Int × (List (Int × Td)) × Int × Int × Bool × (List (Int × Int)) × (List (Int × Int)) × Tb × Th) (Ts × List Tc × Bool)))).bind fun f => flC f fun (v3 : Bool) =>
       bif v3 then (
        ((gaw x0 x1)).bind fun r11 =>
        some (.out (r11.1, [], r11.2))
       ) else (
        some (.go (x0.fO.fe, x0.fO.fc, x0.fO.fd, x0.fO.fg, x0.fO.fa.fb, x0.fO.fa.fAt, x0.fO.fa.ff, x0.fO.fa.fj, x0.fO.fa.fk, x0.fX, x1))
       )
      )
     )
    )
   )
  )
  : Option (Fl (Tl × Int × Int × (List (Int × Td)) × Int × Int × Bool × (List (Int × Int)) × (List (Int × Int)) × Tb × Th) (Ts × List Tc × Bool))).bind fun f => flC f fun (v1 : Tl × Int × Int × (List (Int × Td)) × Int × Int × Bool × (List (Int × Int)) × (List (Int × Int)) × Tb × Th) =>
  some ((Ts.mk (Tg.mk v1.1 v1.2.2.2.1 (Tq.mk v1.2.2.2.2.1 v1.2.2.2.2.2.2.2.1 v1.2.2.2.2.2.2.2.2.1 v1.2.2.2.2.2.1 v1.2.2.2.2.2.2.1) v1.2.1 v1.2.2.1) v1.2.2.2.2.2.2.2.2.2.1 x0.fB x0.fN), [], true)
 )
end Go.Proofs
end
