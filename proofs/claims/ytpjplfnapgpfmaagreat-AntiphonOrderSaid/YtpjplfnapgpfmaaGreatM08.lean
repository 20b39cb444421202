/- What these functions compute, as plain functions. No condition. -/
import Derived.Test.YtpjplfnapgpfmaaGreatTs
import Derived.Test.YtpjplfnapgpfmaaGreatM07
import Derived.Test.YtpjplfnapgpfmaaGreatM02
import Derived.Test.YtpjplfnapgpfmaaGreatM01
import Derived.Test.YtpjplfnapgpfmaaGreatM10
import Derived.Test.YtpjplfnapgpfmaaGreatM05
section
namespace Go.Proofs
open Go.Ab
noncomputable def gH.loop1 (x0 : Tc) (x1 : Int) (s1 : Int) : Option (Fl Int (Fl Unit Int)) :=
 bif (ltI s1 (lenL x0.fL)) then (
  need (InB s1 (lenL x0.fL)) <|
  bif (eqI ((nthI x0.fL s1).fId) x1) then (
   some (.out (.out s1))
  ) else (
    some (.go (addI .i64 s1 1))
  )
 ) else (
   some (.out (.go ()))
 )

noncomputable def gH (x0 : Tc) (x1 : Int) : Option Int :=
 ((loopF (gH.loop1 x0 x1) 0).bind fun f => flC f fun (_v1 : Unit) =>
   some (-1)
 )

noncomputable def gaq.loop1 (x0 : Int) (x1 : List Ta) (s1 : Int × List Tb) : Option (Fl (Int × List Tb) (Fl (List Tb) (List Tb))) :=
 bif (ltI s1.1 (lenL x1)) then (
  need (InB s1.1 (lenL x1)) <|
  need (AppB (lenL s1.2) 1 40) <|
  some (.go ((addI .i64 s1.1 1), (appL s1.2 [(Tb.mk x0 (nthI x1 s1.1))])))
 ) else (
   some (.out (.go s1.2))
 )

noncomputable def gaq (x0 : Int) (x1 : List Ta) : Option (List Tb) :=
 ((loopF (gaq.loop1 x0 x1) (0, [])).bind fun f => flC f fun (v1 : List Tb) =>
   some v1
 )

noncomputable def gat.loop2 (x1 : Int) (v1 : Tc × Bool) (s2 : Int × Bool × List Tg) : Option (Fl (Int × Bool × List Tg) (Fl (Bool × List Tg) (Tc × Int))) :=
 bif (ltI s2.1 (lenL v1.1.fL)) then (
  need (InB s2.1 (lenL v1.1.fL)) <|
  ((
   bif (pickB (notB s2.2.1) (ltI x1 ((nthI v1.1.fL s2.1).fId)) false) then (
    need (AppB (lenL s2.2.2) 1 64) <|
    some (.go (true, (appL s2.2.2 [(Tg.mk x1 v1.2 (Tl.mk v1.1.fd v1.1.fm [] true))])))
   ) else (
     some (.go (s2.2.1, s2.2.2))
   )
   : Option (Fl (Bool × List Tg) (Fl (Int × Bool × List Tg) (Fl (Bool × List Tg) (Tc × Int))))).bind fun f => flC f fun (v3 : Bool × List Tg) =>
   need (AppB (lenL v3.2) 1 64) <|
   some (.go ((addI .i64 s2.1 1), v3.1, (appL v3.2 [(nthI v1.1.fL s2.1)])))
  )
 ) else (
   some (.out (.go (s2.2.1, s2.2.2)))
 )

noncomputable def gat (x0 : Tc) (x1 : Int) (x2 : Bool) (x3 : Int) : Option (Tc × Int) :=
 ((gH x0 x1)).bind fun r1 =>
 bif (leqI 0 r1) then (
  some (x0, 10)
 ) else (
   ((
    bif x2 then (
     ((gav x0.fS x1 x3)).bind fun r2 =>
     bif (neI r2.2 0) then (
      some (.out (x0, r2.2))
     ) else (
       some (.go ((Tc.mk x0.fd x0.fm x0.fq x0.fb x0.fo x0.fL r2.1 x0.fc x0.ff), true))
     )
    ) else (
      some (.go (x0, false))
    )
    : Option (Fl (Tc × Bool) (Tc × Int))).bind fun f => flC f fun (v1 : Tc × Bool) =>
    ((loopF (gat.loop2 x1 v1) (0, false, [])).bind fun f => flC f fun (v2 : Bool × List Tg) =>
      ((
       bif (notB v2.1) then (
        need (AppB (lenL v2.2) 1 64) <|
        some (.go (appL v2.2 [(Tg.mk x1 v1.2 (Tl.mk v1.1.fd v1.1.fm [] true))]))
       ) else (
         some (.go v2.2)
       )
       : Option (Fl (List Tg) (Tc × Int))).bind fun f => flC f fun (v4 : List Tg) =>
       some ((Tc.mk v1.1.fd v1.1.fm v1.1.fq v1.1.fb v1.1.fo v4 v1.1.fS v1.1.fc v1.1.ff), 0)
      )
    )
   )
 )

noncomputable def gaC (x0 : Tc) (x1 : Int) (x2 : Tl) : Option Tc :=
 need (AppB 0 (lenL x0.fL) 64) <|
 need (InB x1 (lenL x0.fL)) <|
 some (Tc.mk x0.fd x0.fm x0.fq x0.fb x0.fo (setI x0.fL x1 (Tg.mk ((nthI x0.fL x1).fId) ((nthI x0.fL x1).fu) x2)) x0.fS x0.fc x0.ff)

noncomputable def gaE (x0 : Tc) (x1 : Int) : Option (Tc × List Tb × Int) :=
 ((gH x0 x1)).bind fun r1 =>
 bif (ltI r1 0) then (
  some (x0, [], 12)
 ) else (
   need (InB r1 (lenL x0.fL)) <|
   ((gan x0.fS x1)).bind fun r2 =>
   need (CutB 0 r1 (lenL x0.fL)) <|
   need (AppB 0 (lenL (cutL x0.fL 0 r1)) 64) <|
   need (CutB (addI .i64 r1 1) (lenL x0.fL) (lenL x0.fL)) <|
   need (AppB (lenL (cutL x0.fL 0 r1)) (lenL (cutL x0.fL (addI .i64 r1 1) (lenL x0.fL))) 64) <|
   ((gaq x1 ((nthI x0.fL r1).fQ.fL))).bind fun r3 =>
   some ((Tc.mk x0.fd x0.fm x0.fq x0.fb x0.fo (appL (appL [] (cutL x0.fL 0 r1)) (cutL x0.fL (addI .i64 r1 1) (lenL x0.fL))) r2.1 x0.fc x0.ff), r3, 0)
 )

noncomputable def gaH (x0 : Tc) (x1 : Int) : Option (Tc × List Tb) :=
 ((gH x0 x1)).bind fun r1 =>
 bif (ltI r1 0) then (
  some (x0, [])
 ) else (
   need (InB r1 (lenL x0.fL)) <|
   ((gaq x1 ((nthI x0.fL r1).fQ.fL))).bind fun r2 =>
   ((gaC x0 r1 (Tl.mk ((nthI x0.fL r1).fQ.fd) ((nthI x0.fL r1).fQ.fb) [] true))).bind fun r3 =>
   some (r3, r2)
 )

noncomputable def gaN (x0 : Tc) (x1 : Int) (x2 : Ta) : Option (Tc × List Tb × Bool) :=
 ((gH x0 x1)).bind fun r1 =>
 bif (pickB (ltI r1 0) true (ltI x0.fb x2.fj)) then (
  some (x0, [], false)
 ) else (
   need (Under x2.fy false (InB r1 (lenL x0.fL))) <|
   need (InB r1 (lenL x0.fL)) <|
   ((gar ((nthI x0.fL r1).fQ) (Ta.mk x2.fN x2.fj x2.fw (pickB x2.fy true (notB ((nthI x0.fL r1).fu)))))).bind fun r2 =>
   ((gaC x0 r1 r2.1)).bind fun r3 =>
   ((gaq x1 r2.2.1)).bind fun r4 =>
   some (r3, r4, r2.2.2)
 )

noncomputable def gE.loop1 (x0 : Tc) (s1 : Int × List Tf × Int) : Option (Fl (Int × List Tf × Int) (Fl (List Tf × Int) (Tc × Int))) :=
 bif (ltI s1.1 (lenL x0.fL)) then (
  need (InB s1.1 (lenL x0.fL)) <|
  bif (eqI (lenL ((nthI x0.fL s1.1).fQ.fL)) 0) then (
   some (.go ((addI .i64 s1.1 1), s1.2.1, s1.2.2))
  ) else (
    bif (nthI x0.fL s1.1).fu then (
     need (InB 0 (lenL ((nthI x0.fL s1.1).fQ.fL))) <|
     need (AppB (lenL s1.2.1) 1 16) <|
     some (.go ((addI .i64 s1.1 1), (appL s1.2.1 [(Tf.mk ((nthI x0.fL s1.1).fId) ((nthI ((nthI x0.fL s1.1).fQ.fL) 0).fj))]), s1.2.2))
    ) else (
      need (Under (ltI s1.2.2 0) false (InB 0 (lenL ((nthI x0.fL s1.1).fQ.fL)))) <|
      need (Under (ltI s1.2.2 0) false (InB s1.2.2 (lenL x0.fL))) <|
      need (Under (ltI s1.2.2 0) false (InB 0 (lenL ((nthI x0.fL s1.2.2).fQ.fL)))) <|
      bif (pickB (ltI s1.2.2 0) true (ltI ((nthI ((nthI x0.fL s1.1).fQ.fL) 0).fw) ((nthI ((nthI x0.fL s1.2.2).fQ.fL) 0).fw))) then (
       some (.go ((addI .i64 s1.1 1), s1.2.1, s1.1))
      ) else (
        some (.go ((addI .i64 s1.1 1), s1.2.1, s1.2.2))
      )
    )
  )
 ) else (
   some (.out (.go (s1.2.1, s1.2.2)))
 )

noncomputable def gE (x0 : Tc) : Option (Tc × Int) :=
 ((loopF (gE.loop1 x0) (0, [], (-1))).bind fun f => flC f fun (v1 : List Tf × Int) =>
   bif (pickB (leqI 0 v1.2) (pickB (ltI x0.ff x0.fo) true (eqI (lenL v1.1) 0)) false) then (
    some (x0, v1.2)
   ) else (
     ((gf x0.fS v1.1)).bind fun r1 =>
     bif (notB r1.2.2) then (
      some ((Tc.mk x0.fd x0.fm x0.fq x0.fb x0.fo x0.fL r1.1 x0.fc x0.ff), (-1))
     ) else (
       ((gH (Tc.mk x0.fd x0.fm x0.fq x0.fb x0.fo x0.fL r1.1 x0.fc x0.ff) r1.2.1)).bind fun r2 =>
       some ((Tc.mk x0.fd x0.fm x0.fq x0.fb x0.fo x0.fL r1.1 x0.fc x0.ff), r2)
     )
   )
 )

noncomputable def gai.loop1  (s1 : Int × List Tb × Tc) : Option (Fl (Int × List Tb × Tc) (Fl (List Tb × Tc) (Tc × List Tb))) :=
 bif (ltI s1.1 100000) then (
  ((
   ((gE s1.2.2)).bind fun r1 =>
   bif (ltI r1.2 0) then (
    some (.out (.out (.out (r1.1, s1.2.1))))
   ) else (
     need (InB r1.2 (lenL r1.1.fL)) <|
     need (InB 0 (lenL ((nthI r1.1.fL r1.2).fQ.fL))) <|
     bif (ltI r1.1.fc ((nthI ((nthI r1.1.fL r1.2).fQ.fL) 0).fj)) then (
      some (.out (.out (.out (r1.1, s1.2.1))))
     ) else (
       need (CutB 1 (lenL ((nthI r1.1.fL r1.2).fQ.fL)) (lenL ((nthI r1.1.fL r1.2).fQ.fL))) <|
       ((gaC r1.1 r1.2 (Tl.mk ((nthI r1.1.fL r1.2).fQ.fd) ((nthI r1.1.fL r1.2).fQ.fb) (cutL ((nthI r1.1.fL r1.2).fQ.fL) 1 (lenL ((nthI r1.1.fL r1.2).fQ.fL))) ((nthI r1.1.fL r1.2).fQ.fv)))).bind fun r2 =>
       ((
        bif (nthI r1.1.fL r1.2).fu then (
         ((gay r2.fS ((nthI ((nthI r1.1.fL r1.2).fQ.fL) 0).fj))).bind fun r3 =>
         some (.go ((Tc.mk r2.fd r2.fm r2.fq r2.fb r2.fo r2.fL r3 (subI .i64 r2.fc ((nthI ((nthI r1.1.fL r1.2).fQ.fL) 0).fj)) 0), (Tg.mk ((nthI r1.1.fL r1.2).fId) true ((nthI r1.1.fL r1.2).fQ))))
        ) else (
          some (.go ((Tc.mk r2.fd r2.fm r2.fq r2.fb r2.fo r2.fL r2.fS (subI .i64 r2.fc ((nthI ((nthI r1.1.fL r1.2).fQ.fL) 0).fj)) (addI .i64 r2.ff 1)), (Tg.mk ((nthI r1.1.fL r1.2).fId) false ((nthI r1.1.fL r1.2).fQ))))
        )
        : Option (Fl (Tc × Tg) (Fl (List Tb × Tc) (Fl (Int × List Tb × Tc) (Fl (List Tb × Tc) (Tc × List Tb)))))).bind fun f => flC f fun (v3 : Tc × Tg) =>
        need (AppB (lenL s1.2.1) 1 40) <|
        some (.go ((appL s1.2.1 [(Tb.mk v3.2.fId (nthI ((nthI r1.1.fL r1.2).fQ.fL) 0))]), v3.1))
       )
     )
   )
   : Option (Fl (List Tb × Tc) (Fl (Int × List Tb × Tc) (Fl (List Tb × Tc) (Tc × List Tb))))).bind fun f => flC f fun (v2 : List Tb × Tc) =>
   some (.go ((addI .i64 s1.1 1), v2.1, v2.2))
  )
 ) else (
   some (.out (.go (s1.2.1, s1.2.2)))
 )

noncomputable def gai (x0 : Tc) : Option (Tc × List Tb) :=
 ((loopF gai.loop1 (0, [], x0)).bind fun f => flC f fun (v1 : List Tb × Tc) =>
   some (v1.2, v1.1)
 )

noncomputable def gas.loop1 (x0 : Tc) (x1 : Int) (s1 : Int × List Tb × Tc) : Option (Fl (Int × List Tb × Tc) (Fl (List Tb × Tc) (Tc × List Tb))) :=
 bif (ltI s1.1 (lenL x0.fL)) then (
  need (InB s1.1 (lenL x0.fL)) <|
  ((gU ((nthI x0.fL s1.1).fQ) x1 s1.2.2.fq)).bind fun r1 =>
  ((gaC s1.2.2 s1.1 r1.1)).bind fun r2 =>
  ((gaq ((nthI x0.fL s1.1).fId) r1.2)).bind fun r3 =>
  need (AppB (lenL s1.2.1) (lenL r3) 40) <|
  some (.go ((addI .i64 s1.1 1), (appL s1.2.1 r3), r2))
 ) else (
   some (.out (.go (s1.2.1, s1.2.2)))
 )

noncomputable def gas (x0 : Tc) (x1 : Int) : Option (Tc × List Tb) :=
 ((loopF (gas.loop1 x0 x1) (0, [], x0)).bind fun f => flC f fun (v1 : List Tb × Tc) =>
   some (v1.2, v1.1)
 )
end Go.Proofs
end
section
namespace Go.Proofs
open Go.Ab
noncomputable def gg.loop1 (x0 : Th) (r2 : List Int) (s1 : Int × List Tf) : Option (Fl (Int × List Tf) (Fl (List Tf) (Int × Bool × Th))) :=
 bif (ltI s1.1 (lenL r2)) then (
  need (InB s1.1 (lenL r2)) <|
  optC (findM eqI (nthI r2 s1.1) x0.fh) (
   none
  ) fun z3 => (
    ((gD z3.fB)).bind fun r4 =>
    need (AppB (lenL s1.2) 1 16) <|
    some (.go ((addI .i64 s1.1 1), (appL s1.2 [(Tf.mk (nthI r2 s1.1) r4.1.fj)])))
  )
 ) else (
   some (.out (.go s1.2))
 )

noncomputable def gg (x0 : Th) : Option (Int × Bool × Th) :=
 ((gy x0 false)).bind fun r1 =>
 ((gy x0 true)).bind fun r2 =>
 bif (pickB (ltI 0 (lenL r1)) (pickB (ltI x0.ff x0.fe.fo) true (eqI (lenL r2) 0)) false) then (
  ((gaf x0 r1)).bind fun r3 =>
  some (r3, true, x0)
 ) else (
   ((loopF (gg.loop1 x0 r2) (0, [])).bind fun f => flC f fun (v1 : List Tf) =>
     ((ge x0.fa v1)).bind fun r5 =>
     some (r5.1, r5.2.1, (Th.mk x0.fe x0.fh r5.2.2 x0.fc x0.ff))
   )
 )

noncomputable def gv.loop1  (s1 : List Tb × Tt × Int × Int × (List (Int × Tk)) × Int × Int × Bool × (List (Int × Int)) × (List (Int × Int))) : Option (Fl (List Tb × Tt × Int × Int × (List (Int × Tk)) × Int × Int × Bool × (List (Int × Int)) × (List (Int × Int))) (Fl Unit (List Tb × Th))) :=
 ((gg (Th.mk s1.2.1 s1.2.2.2.2.1 (Tp.mk s1.2.2.2.2.2.1 s1.2.2.2.2.2.2.2.2.1 s1.2.2.2.2.2.2.2.2.2 s1.2.2.2.2.2.2.1 s1.2.2.2.2.2.2.2.1) s1.2.2.1 s1.2.2.2.1))).bind fun r1 =>
 bif (notB r1.2.1) then (
  some (.out (.out (s1.1, r1.2.2)))
 ) else (
   optC (findM eqI r1.1 r1.2.2.fh) (
    none
   ) fun z3 => (
     ((gD z3.fB)).bind fun r2 =>
     bif (ltI r1.2.2.fc r2.1.fj) then (
      some (.out (.out (s1.1, r1.2.2)))
     ) else (
       ((gau z3.fB)).bind fun r3 =>
       ((
        bif z3.fu then (
         ((gaj r1.2.2.fa r2.1.fj)).bind fun r4 =>
         some (.go (r4.fb, r4.fAt, r4.fg, r4.fk, r4.fp, 0, true))
        ) else (
          some (.go (r1.2.2.fa.fb, r1.2.2.fa.fAt, r1.2.2.fa.fg, r1.2.2.fa.fk, r1.2.2.fa.fp, (addI .i64 r1.2.2.ff 1), false))
        )
        : Option (Fl (Int × Int × Bool × (List (Int × Int)) × (List (Int × Int)) × Int × Bool) (Fl (List Tb × Tt × Int × Int × (List (Int × Tk)) × Int × Int × Bool × (List (Int × Int)) × (List (Int × Int))) (Fl Unit (List Tb × Th))))).bind fun f => flC f fun (v2 : Int × Int × Bool × (List (Int × Int)) × (List (Int × Int)) × Int × Bool) =>
        need (AppB (lenL s1.1) 1 40) <|
        some (.go ((appL s1.1 [(Tb.mk r1.1 r2.1)]), r1.2.2.fe, (subI .i64 r1.2.2.fc r2.1.fj), v2.2.2.2.2.2.1, (setM eqI r1.1 (Tk.mk r3.2.2 z3.fu) r1.2.2.fh), v2.1, v2.2.1, v2.2.2.1, v2.2.2.2.1, v2.2.2.2.2.1))
       )
     )
   )
 )

noncomputable def gv (x0 : Th) : Option (List Tb × Th) :=
 ((loopF gv.loop1 ([], x0.fe, x0.fc, x0.ff, x0.fh, x0.fa.fb, x0.fa.fAt, x0.fa.fg, x0.fa.fk, x0.fa.fp)).bind fun f => flC f fun (_v1 : Unit) =>
   none
 )

noncomputable def gA.loop1 (x0 : Th) (x1 : Int) (s1 : Int × List Tb × (List (Int × Tk))) : Option (Fl (Int × List Tb × (List (Int × Tk))) (Fl (List Tb × (List (Int × Tk))) (List Tb × Th))) :=
 bif (ltI s1.1 (lenL (sortL (keysM x0.fh)))) then (
  need (InB s1.1 (lenL (sortL (keysM x0.fh)))) <|
  optC (findM eqI (nthI (sortL (keysM x0.fh)) s1.1) s1.2.2) (
   none
  ) fun z3 => (
    ((gl z3.fB x1 x0.fe.fq)).bind fun r1 =>
    ((gag (nthI (sortL (keysM x0.fh)) s1.1) r1.1)).bind fun r2 =>
    need (AppB (lenL s1.2.1) (lenL r2) 40) <|
    some (.go ((addI .i64 s1.1 1), (appL s1.2.1 r2), (setM eqI (nthI (sortL (keysM x0.fh)) s1.1) (Tk.mk r1.2 z3.fu) s1.2.2)))
  )
 ) else (
   some (.out (.go (s1.2.1, s1.2.2)))
 )

noncomputable def gA (x0 : Th) (x1 : Int) : Option (List Tb × Th) :=
 need (KeysB (keysM x0.fh)) <|
 ((loopF (gA.loop1 x0 x1) (0, [], x0.fh)).bind fun f => flC f fun (v1 : List Tb × (List (Int × Tk))) =>
   some (v1.1, (Th.mk x0.fe v1.2 x0.fa x0.fc x0.ff))
 )
end Go.Proofs
end
section
namespace Go.Proofs
open Go.Ab
noncomputable def gaS (x0 : Bool) (x1 : Int) : Option Int :=
 bif x0 then (
  some x1
 ) else (
   some 0
 )

noncomputable def gaX (x0 : ByteArray) : Option (Int × Int) :=
 bif (eqS x0 ⟨#[]⟩) then (
  some (0, 1)
 ) else (
   need (InB (subI .i64 (lenS x0) 1) (lenS x0)) <|
   bif (eqI (cvtI .i64 (idxS x0 (subI .i64 (lenS x0) 1))) 0) then (
    some (0, 2)
   ) else (
     bif (ltI (lenS x0) (cvtI .i64 (idxS x0 (subI .i64 (lenS x0) 1)))) then (
      some (0, 1)
     ) else (
       some ((cvtI .i64 (idxS x0 (subI .i64 (lenS x0) 1))), 0)
     )
   )
 )

noncomputable def gL.loop2 (v1 : List Int × Ts) (s2 : Int × List Int) : Option (Fl (Int × List Int) (Fl (List Int) ByteArray)) :=
 bif (ltI s2.1 v1.2.fF) then (
  ((gaS (eqI s2.1 (subI .i64 v1.2.fF 1)) (cvtI .u8 v1.2.fF))).bind fun r10 =>
  need (AppB (lenL s2.2) 1 1) <|
  some (.go ((addI .i64 s2.1 1), (appL s2.2 [r10])))
 ) else (
   some (.out (.go s2.2))
 )

noncomputable def gL (x0 : Ts) : Option ByteArray :=
 ((gaS (ltI 0 x0.fF) 32)).bind fun r1 =>
 ((gaS x0.fad 16)).bind fun r2 =>
 ((gaS x0.fM 128)).bind fun r3 =>
 need (AppB 0 2 1) <|
 ((gi (appL [] [(bitsOp .or .u8 (bitsOp .or .u8 (bitsOp .or .u8 128 r1) r2) (cvtI .u8 (lenL x0.fP))), (bitsOp .or .u8 r3 x0.fI)]) [x0.fac])).bind fun r4 =>
 ((gk r4 [x0.fW, x0.fY])).bind fun r5 =>
 ((gk r5 x0.fP)).bind fun r6 =>
 ((
  bif x0.fad then (
   need (NonZ 4) <|
   ((gi r6 [x0.fH, (cvtI .u16 (quoI .i64 (lenS x0.fU) 4))])).bind fun r7 =>
   ((gn r7 [x0.fU])).bind fun r8 =>
   some (.go (r8, (Ts.mk x0.fM x0.fI x0.fac x0.fW x0.fY x0.fP true x0.fH x0.fU x0.fC x0.fF)))
  ) else (
    some (.go (r6, (Ts.mk x0.fM x0.fI x0.fac x0.fW x0.fY x0.fP false x0.fH x0.fU x0.fC x0.fF)))
  )
  : Option (Fl (List Int × Ts) ByteArray)).bind fun f => flC f fun (v1 : List Int × Ts) =>
  ((gn v1.1 [v1.2.fC])).bind fun r9 =>
  ((loopF (gL.loop2 v1) (0, r9)).bind fun f => flC f fun (v2 : List Int) =>
    need (TextB v2) <|
    some (strOfNums v2)
  )
 )

noncomputable def gaz.loop1 (r2 : Int × Tj) (s1 : Int × Tj × List Int) : Option (Fl (Int × Tj × List Int) (Fl (Tj × List Int) (Ts × Int))) :=
 bif (ltI s1.1 (bitsOp .and .u8 r2.1 15)) then (
  ((gN s1.2.1)).bind fun r8 =>
  need (AppB (lenL s1.2.2) 1 4) <|
  some (.go ((addI .u8 s1.1 1), r8.2, (appL s1.2.2 [r8.1])))
 ) else (
   some (.out (.go (s1.2.1, s1.2.2)))
 )

noncomputable def gaz (x0 : ByteArray) : Option (Ts × Int) :=
 bif (ltI 1500 (lenS x0)) then (
  some ((Ts.mk false 0 0 0 0 [] false 0 ⟨#[]⟩ ⟨#[]⟩ 0), 4)
 ) else (
   ((gaP x0)).bind fun r1 =>
   ((gac r1)).bind fun r2 =>
   ((gac r2.2)).bind fun r3 =>
   ((gZ r3.2)).bind fun r4 =>
   need (Under (eqI r4 0) true (NonN 6)) <|
   bif (pickB (eqI r4 0) (neI (shrI .u8 r2.1 6) 2) false) then (
    some ((Ts.mk false 0 0 0 0 [] false 0 ⟨#[]⟩ ⟨#[]⟩ 0), 2)
   ) else (
     ((gM r3.2)).bind fun r5 =>
     ((gN r5.2)).bind fun r6 =>
     ((gN r6.2)).bind fun r7 =>
     ((loopF (gaz.loop1 r2) (0, r7.2, [])).bind fun f => flC f fun (v1 : Tj × List Int) =>
       ((
        bif (ltI 0 (bitsOp .and .u8 r2.1 16)) then (
         ((gM v1.1)).bind fun r9 =>
         ((gM r9.2)).bind fun r10 =>
         ((gz r10.2 (mulI .i64 4 (cvtI .i64 r10.1)))).bind fun r11 =>
         some (.go (r11.2, r9.1, r11.1, true))
        ) else (
          some (.go (v1.1, 0, ⟨#[]⟩, false))
        )
        : Option (Fl (Tj × Int × ByteArray × Bool) (Ts × Int))).bind fun f => flC f fun (v2 : Tj × Int × ByteArray × Bool) =>
        ((gP v2.1)).bind fun r12 =>
        ((
         ((gZ r12.2)).bind fun r13 =>
         bif (pickB (eqI r13 0) (ltI 0 (bitsOp .and .u8 r2.1 32)) false) then (
          ((gaX r12.1)).bind fun r14 =>
          ((gJ r12.2 r14.2)).bind fun r15 =>
          need (CutB 0 (subI .i64 (lenS r12.1) r14.1) (lenS r12.1)) <|
          some (.go (r15, (cutS r12.1 0 (subI .i64 (lenS r12.1) r14.1)), r14.1))
         ) else (
           some (.go (r12.2, r12.1, 0))
         )
         : Option (Fl (Tj × ByteArray × Int) (Ts × Int))).bind fun f => flC f fun (v3 : Tj × ByteArray × Int) =>
         ((gZ v3.1)).bind fun r16 =>
         bif (neI r16 0) then (
          some ((Ts.mk false 0 0 0 0 [] false 0 ⟨#[]⟩ ⟨#[]⟩ 0), r16)
         ) else (
           some ((Ts.mk (ltI 127 r3.1) (bitsOp .and .u8 r3.1 127) r5.1 r6.1 r7.1 v1.2 v2.2.2.2 v2.2.1 v2.2.2.1 v3.2.1 v3.2.2), 0)
         )
        )
       )
     )
   )
 )
end Go.Proofs
end
