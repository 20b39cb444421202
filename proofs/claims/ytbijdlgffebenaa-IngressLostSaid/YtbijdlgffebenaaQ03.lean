/- What these functions compute, as plain functions. No condition. -/
import Derived.Test.YtbijdlgffebenaaTs
import Derived.Test.YtbijdlgffebenaaQ05
import Derived.Test.YtbijdlgffebenaaQ09
import Derived.Test.YtbijdlgffebenaaQ02
import Derived.Test.YtbijdlgffebenaaQ04
section
namespace Go.Proofs
open Go.Ab
noncomputable def gar.loop1  (s1 : Nat × List Ta × Tn) : Option (Fl (Nat × List Ta × Tn) (Fl (Nat × List Ta × Tn) (Tn × List Ta × Nat))) :=
 need (Under (ltI 0 (lenL s1.2.2.fL)) true (InB 0 (lenL s1.2.2.fL))) <|
 bif (pickB (ltI 0 (lenL s1.2.2.fL)) (eqI ((nthI s1.2.2.fL 0).fAt) s1.2.2.fg) false) then (
  need (InB 0 (lenL s1.2.2.fL)) <|
  need (AppB (lenL s1.2.1) 1 32) <|
  need (CutB 1 (lenL s1.2.2.fL) (lenL s1.2.2.fL)) <|
  some (.go ((s1.1 + 1), (appL s1.2.1 [(nthI s1.2.2.fL 0)]), (Tn.mk s1.2.2.fk s1.2.2.fq s1.2.2.fd (addI .i64 s1.2.2.fg 1) (cutL s1.2.2.fL 1 (lenL s1.2.2.fL)) s1.2.2.fe)))
 ) else (
  some (.out (.go (s1.1, s1.2.1, s1.2.2)))
 )

noncomputable def gar (x0 : Tn) : Option (Tn × List Ta × Nat) :=
 ((loopF gar.loop1 (0, [], x0)).bind fun f => flC f fun (v1 : Nat × List Ta × Tn) =>
  some (v1.2.2, v1.2.1, v1.1)
 )

noncomputable def gaG (x0 : Tn) : Option (Tn × List Ta × Nat) :=
 need (InB 0 (lenL x0.fL)) <|
 need (InB 0 (lenL x0.fL)) <|
 ((gar (Tn.mk x0.fk x0.fq x0.fd ((nthI x0.fL 0).fAt) x0.fL (addI .i64 x0.fe (subI .i64 ((nthI x0.fL 0).fAt) x0.fg))))).bind fun r1 =>
 some (r1.1, r1.2.1, r1.2.2)

noncomputable def gaw.loop1 (x0 : List Ta) (x1 : Ta) (s1 : Int × Bool × List Ta) : Option (Fl (Int × Bool × List Ta) (Fl (Bool × List Ta) (List Ta))) :=
 bif (ltI s1.1 (lenL x0)) then (
  need (InB s1.1 (lenL x0)) <|
  ((
   bif (pickB (notB s1.2.1) (ltI x1.fAt ((nthI x0 s1.1).fAt)) false) then (
    need (AppB (lenL s1.2.2) 1 32) <|
    some (.go (true, (appL s1.2.2 [x1])))
   ) else (
    some (.go (s1.2.1, s1.2.2))
   )
   : Option (Fl (Bool × List Ta) (Fl (Int × Bool × List Ta) (Fl (Bool × List Ta) (List Ta))))).bind fun f => flC f fun (v2 : Bool × List Ta) =>
   need (AppB (lenL v2.2) 1 32) <|
   some (.go ((addI .i64 s1.1 1), v2.1, (appL v2.2 [(nthI x0 s1.1)])))
  )
 ) else (
  some (.out (.go (s1.2.1, s1.2.2)))
 )

noncomputable def gaw (x0 : List Ta) (x1 : Ta) : Option (List Ta) :=
 ((loopF (gaw.loop1 x0 x1) (0, false, [])).bind fun f => flC f fun (v1 : Bool × List Ta) =>
  ((
   bif (notB v1.1) then (
    need (AppB (lenL v1.2) 1 32) <|
    some (.go (appL v1.2 [x1]))
   ) else (
    some (.go v1.2)
   )
   : Option (Fl (List Ta) (List Ta))).bind fun f => flC f fun (v3 : List Ta) =>
   some v3
  )
 )

noncomputable def gan.loop2 (x1 : Ta) (v1 : Tn) (s2 : Int) : Option (Fl Int (Fl Unit (Tn × List Ta × Int))) :=
 bif (ltI s2 (lenL v1.fL)) then (
  need (InB s2 (lenL v1.fL)) <|
  bif (eqI ((nthI v1.fL s2).fAt) x1.fAt) then (
   some (.out (.out (v1, [], 14)))
  ) else (
   some (.go (addI .i64 s2 1))
  )
 ) else (
  some (.out (.go ()))
 )

noncomputable def gan.loop3  (s3 : List Ta × Tn) : Option (Fl (List Ta × Tn) (Fl (List Ta × Tn) (Tn × List Ta × Int))) :=
 bif (ltI s3.2.fk (lenL s3.2.fL)) then (
  ((gaG s3.2)).bind fun r3 =>
  need (AppB (lenL s3.1) (lenL r3.2.1) 32) <|
  some (.go ((appL s3.1 r3.2.1), r3.1))
 ) else (
  some (.out (.go (s3.1, s3.2)))
 )

noncomputable def gan (x0 : Tn) (x1 : Ta) : Option (Tn × List Ta × Int) :=
 ((
  bif (notB x0.fd) then (
   some (.go (Tn.mk x0.fk x0.fq true x1.fAt x0.fL x0.fe))
  ) else (
   some (.go x0)
  )
  : Option (Fl Tn (Tn × List Ta × Int))).bind fun f => flC f fun (v1 : Tn) =>
  bif (ltI x1.fAt v1.fg) then (
   some (v1, [], 13)
  ) else (
   ((loopF (gan.loop2 x1 v1) 0).bind fun f => flC f fun (_v2 : Unit) =>
    ((gaw v1.fL x1)).bind fun r1 =>
    ((gar (Tn.mk v1.fk v1.fq v1.fd v1.fg r1 v1.fe))).bind fun r2 =>
    ((loopF gan.loop3 (r2.2.1, r2.1)).bind fun f => flC f fun (v3 : List Ta × Tn) =>
     some (v3.2, v3.1, 0)
    )
   )
  )
 )

noncomputable def gav.loop1 (x1 : Int) (s1 : List Ta × Tn) : Option (Fl (List Ta × Tn) (Fl (List Ta × Tn) (Tn × List Ta))) :=
 need (Under (ltI 0 (lenL s1.2.fL)) true (InB 0 (lenL s1.2.fL))) <|
 bif (pickB (ltI 0 (lenL s1.2.fL)) (leqI s1.2.fq (subI .i64 x1 ((nthI s1.2.fL 0).fO))) false) then (
  ((gaG s1.2)).bind fun r1 =>
  need (AppB (lenL s1.1) (lenL r1.2.1) 32) <|
  some (.go ((appL s1.1 r1.2.1), r1.1))
 ) else (
  some (.out (.go (s1.1, s1.2)))
 )

noncomputable def gav (x0 : Tn) (x1 : Int) : Option (Tn × List Ta) :=
 ((loopF (gav.loop1 x1) ([], x0)).bind fun f => flC f fun (v1 : List Ta × Tn) =>
  some (v1.2, v1.1)
 )

noncomputable def gT.loop2 (x0 : Tn) (x1 : Int) (s1 : Int × Int × List Int) (s2 : Int × List Int) : Option (Fl (Int × List Int) (Fl (List Int) (Fl (Int × Int × List Int) (Fl (List Int) (List Int))))) :=
 bif (pickB (ltI s2.1 ((nthI x0.fL s1.1).fAt)) (ltI (lenL s2.2) x1) false) then (
  need (AppB (lenL s2.2) 1 8) <|
  some (.go ((addI .i64 s2.1 1), (appL s2.2 [s2.1])))
 ) else (
  some (.out (.go s2.2))
 )

noncomputable def gT.loop1 (x0 : Tn) (x1 : Int) (s1 : Int × Int × List Int) : Option (Fl (Int × Int × List Int) (Fl (List Int) (List Int))) :=
 bif (ltI s1.1 (lenL x0.fL)) then (
  need (InB s1.1 (lenL x0.fL)) <|
  ((loopF (gT.loop2 x0 x1 s1) (s1.2.1, s1.2.2)).bind fun f => flC f fun (v2 : List Int) =>
   some (.go ((addI .i64 s1.1 1), (addI .i64 ((nthI x0.fL s1.1).fAt) 1), v2))
  )
 ) else (
  some (.out (.go s1.2.2))
 )

noncomputable def gT (x0 : Tn) (x1 : Int) : Option (List Int) :=
 ((loopF (gT.loop1 x0 x1) (0, x0.fg, [])).bind fun f => flC f fun (v1 : List Int) =>
  some v1
 )
end Go.Proofs
end
section
namespace Go.Proofs
open Go.Ab
noncomputable def gaC (x0 : Tq) : Option Tq :=
 some (Tq.mk x0.fu x0.fv x0.fj x0.fq [] x0.fz (addI .i64 x0.fe (lenL x0.fw)))

noncomputable def gaz.loop1 (x0 : List Tc) (s1 : Int × Int) : Option (Fl (Int × Int) (Fl Int Int)) :=
 bif (ltI s1.1 (lenL x0)) then (
  need (InB s1.1 (lenL x0)) <|
  some (.go ((addI .i64 s1.1 1), (addI .i64 s1.2 (lenS ((nthI x0 s1.1).fT)))))
 ) else (
  some (.out (.go s1.2))
 )

noncomputable def gaz (x0 : List Tc) : Option Int :=
 ((loopF (gaz.loop1 x0) (0, 0)).bind fun f => flC f fun (v1 : Int) =>
  some v1
 )

noncomputable def gaO (x0 : Tq) (x1 : Tc) : Option (Tq × List Tc) :=
 ((
  bif (ltI 0 (lenL x0.fw)) then (
   need (InB (subI .i64 (lenL x0.fw) 1) (lenL x0.fw)) <|
   some (.go (pickB (pickB (eqI x1.fAt (addI .i64 ((nthI x0.fw (subI .i64 (lenL x0.fw) 1)).fAt) 1)) (eqI x1.fQ ((nthI x0.fw (subI .i64 (lenL x0.fw) 1)).fQ)) false) (notB x1.fy) false))
  ) else (
   some (.go false)
  )
  : Option (Fl Bool (Tq × List Tc))).bind fun f => flC f fun (v1 : Bool) =>
  ((
   bif (notB v1) then (
    ((gaC x0)).bind fun r1 =>
    some (.go r1)
   ) else (
    some (.go x0)
   )
   : Option (Fl Tq (Tq × List Tc))).bind fun f => flC f fun (v2 : Tq) =>
   bif (pickB (pickB (notB v1) v2.fu false) (notB x1.fy) false) then (
    some ((Tq.mk v2.fu v2.fv v2.fj v2.fq v2.fw v2.fz (addI .i64 v2.fe 1)), [])
   ) else (
    need (AppB 0 (lenL v2.fw) 48) <|
    need (AppB (lenL v2.fw) 1 48) <|
    need (Under (ltI v2.fj ((lenL v2.fw) + 1)) false ((gaz (appL (appL [] v2.fw) [x1])).isSome = true)) <|
    bif (pickB (ltI v2.fj ((lenL v2.fw) + 1)) true (ltI v2.fv ((gaz (appL (appL [] v2.fw) [x1])).getD dflt))) then (
     ((gaC (Tq.mk v2.fu v2.fv v2.fj v2.fq (appL (appL [] v2.fw) [x1]) v2.fz v2.fe))).bind fun r2 =>
     some (r2, [])
    ) else (
     bif (pickB v2.fu (notB x1.fA) false) then (
      some ((Tq.mk v2.fu v2.fv v2.fj v2.fq (appL (appL [] v2.fw) [x1]) v2.fz v2.fe), [])
     ) else (
      some ((Tq.mk v2.fu v2.fv v2.fj v2.fq [] (addI .i64 v2.fz 1) v2.fe), (appL (appL [] v2.fw) [x1]))
     )
    )
   )
  )
 )

noncomputable def gaI (x0 : Tq) (x1 : Int) : Option (Tq × Bool) :=
 need (Under (eqI (lenL x0.fw) 0) false (InB 0 (lenL x0.fw))) <|
 bif (pickB (eqI (lenL x0.fw) 0) true (ltI (subI .i64 x1 ((nthI x0.fw 0).fO)) x0.fq)) then (
  some (x0, false)
 ) else (
  ((gaC x0)).bind fun r1 =>
  some (r1, true)
 )
end Go.Proofs
end
