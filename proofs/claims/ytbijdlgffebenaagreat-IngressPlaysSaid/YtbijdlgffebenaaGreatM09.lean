/- What these functions compute, as plain functions. No condition. -/
import Derived.Test.YtbijdlgffebenaaGreatTs
import Derived.Test.YtbijdlgffebenaaGreatKl
import Derived.Test.YtbijdlgffebenaaGreatTy
section
namespace Go.Proofs
open Go.Ab
noncomputable def gK (x0 : Tt) : Option Int :=
 bif (pickB (pickB (pickB (ltI x0.fk 1) true (ltI 1024 x0.fk)) true (ltI x0.fp 0)) true (ltI 1099511627776 x0.fp)) then (
  some 5
 ) else (
  some 0
 )

noncomputable def gaq (x0 : Tt) : Option (Option Th × Int) :=
 ((gK x0)).bind fun r1 =>
 bif (neI r1 0) then (
  some (none, r1)
 ) else (
  some ((some (Th.mk x0 false 0 [] 0)), 0)
 )

noncomputable def gA (x0 : Th) : Option Int :=
 some (lenL x0.fOf)

noncomputable def gl.loop1 (x0 : Th) (s1 : Nat × List Ta × Int × (List (Int × Ta))) : Option (Fl (Nat × List Ta × Int × (List (Int × Ta))) (Fl Unit (List Ta × Nat × Th))) :=
 bif (notB (hasM eqI s1.2.2.1 s1.2.2.2)) then (
  some (.out (.out (s1.2.1, s1.1, (Th.mk x0.fb x0.fd s1.2.2.1 s1.2.2.2 x0.fe))))
 ) else (
  need (AppB (lenL s1.2.1) 1 32) <|
  some (.go ((s1.1 + 1), (appL s1.2.1 [(getM eqI s1.2.2.1 (Ta.mk 0 ⟨⟨[]⟩⟩ 0) s1.2.2.2)]), (addI .i64 s1.2.2.1 1), (delM eqI s1.2.2.1 s1.2.2.2)))
 )

noncomputable def gl (x0 : Th) : Option (List Ta × Nat × Th) :=
 ((loopF (gl.loop1 x0) (0, [], x0.fg, x0.fOf)).bind fun f => flC f fun (_v1 : Unit) =>
  none
 )
end Go.Proofs
end
section
namespace Go.Proofs
open Go.Ab
noncomputable def gR : Option Int :=
 need (NonN 1) <|
 some (addI .u16 (shrI .u16 (subI .u16 0 1) 1) 1)

noncomputable def gS : Option Int :=
 need (NonN 1) <|
 some (addI .u32 (shrI .u32 (subI .u32 0 1) 1) 1)

noncomputable def gae (x0 : Int) (x1 : Int) : Option Int :=
 (gR).bind fun r1 =>
 bif (ltI (subI .u16 x0 x1) r1) then (
  some (cvtI .i64 (subI .u16 x0 x1))
 ) else (
  some (negI .i64 (cvtI .i64 (subI .u16 x1 x0)))
 )

noncomputable def gaf (x0 : Int) (x1 : Int) : Option Int :=
 (gS).bind fun r1 =>
 bif (ltI (subI .u32 x0 x1) r1) then (
  some (cvtI .i64 (subI .u32 x0 x1))
 ) else (
  some (negI .i64 (cvtI .i64 (subI .u32 x1 x0)))
 )

noncomputable def gT (x0 : Int) (x1 : Int) : Option Int :=
 ((gae x1 (cvtI .u16 x0))).bind fun r1 =>
 some (addI .i64 x0 r1)

noncomputable def gU (x0 : Int) (x1 : Int) : Option Int :=
 ((gaf x1 (cvtI .u32 x0))).bind fun r1 =>
 some (addI .i64 x0 r1)

noncomputable def gg (x0 : Tf) (x1 : Int) : Option (Int × Tf) :=
 need (NonN 16) <|
 need (NonN 16) <|
 some ((bitsOp .or .i64 (shlI .i64 (addI .i64 (shrI .i64 x0.ff.fk 16) 2) 16) (cvtI .i64 x1)), (Tf.mk x0.fa x0.fc (Tx.mk x0.ff.fd (bitsOp .or .i64 (shlI .i64 (addI .i64 (shrI .i64 x0.ff.fk 16) 2) 16) (cvtI .i64 x1)) x0.ff.fW 0 (addI .i64 x0.ff.fA 1)) x0.fh x0.fOf x0.fq x0.fo))

noncomputable def ge (x0 : Tf) (x1 : Int) : Option (Int × Bool × Tf) :=
 bif (notB x0.ff.fd) then (
  some ((addI .i64 1048576 (cvtI .i64 x1)), true, (Tf.mk x0.fa x0.fc (Tx.mk true (addI .i64 1048576 (cvtI .i64 x1)) x0.ff.fW x0.ff.fK x0.ff.fA) x0.fh x0.fOf x0.fq x0.fo))
 ) else (
  ((gT x0.ff.fk x1)).bind fun r1 =>
  bif (pickB (leqI (subI .i64 r1 x0.ff.fk) 3000) (leqI (-3000) (subI .i64 r1 x0.ff.fk)) false) then (
   some (r1, true, (Tf.mk x0.fa x0.fc (Tx.mk x0.ff.fd (maxI x0.ff.fk r1) x0.ff.fW 0 x0.ff.fA) x0.fh x0.fOf x0.fq x0.fo))
  ) else (
   ((
    bif (pickB (ltI 0 x0.ff.fK) (eqI x1 x0.ff.fW) false) then (
     some (.go (Tx.mk x0.ff.fd x0.ff.fk x0.ff.fW (addI .i64 x0.ff.fK 1) x0.ff.fA))
    ) else (
     some (.go (Tx.mk x0.ff.fd x0.ff.fk x0.ff.fW 1 x0.ff.fA))
    )
    : Option (Fl Tx (Int × Bool × Tf))).bind fun f => flC f fun (v1 : Tx) =>
    bif (leqI 2 v1.fK) then (
     ((gg (Tf.mk x0.fa x0.fc (Tx.mk v1.fd v1.fk (addI .u16 x1 1) v1.fK v1.fA) x0.fh x0.fOf x0.fq x0.fo) x1)).bind fun r2 =>
     some (r2.1, true, r2.2)
    ) else (
     some (0, false, (Tf.mk x0.fa x0.fc (Tx.mk v1.fd v1.fk (addI .u16 x1 1) v1.fK v1.fA) x0.fh x0.fOf x0.fq x0.fo))
    )
   )
  )
 )

noncomputable def gi (x0 : Tf) (x1 : Int) : Option (Int × Tf) :=
 bif (notB x0.fh.fd) then (
  some ((addI .i64 68719476736 (cvtI .i64 x1)), (Tf.mk x0.fa x0.fc x0.ff (Tw.mk true (addI .i64 68719476736 (cvtI .i64 x1))) x0.fOf x0.fq x0.fo))
 ) else (
  ((gU x0.fh.fX x1)).bind fun r1 =>
  some (r1, (Tf.mk x0.fa x0.fc x0.ff (Tw.mk x0.fh.fd (maxI x0.fh.fX r1)) x0.fOf x0.fq x0.fo))
 )
end Go.Proofs
end
section
namespace Go.Ab
def TextB (bs : List Int) : Prop := bs ≠ [] ∧ ∀ x ∈ bs, 0 ≤ x ∧ x < 256
instance (bs : List Int) : Decidable (TextB bs) := inferInstanceAs (Decidable (bs ≠ [] ∧ ∀ x ∈ bs, 0 ≤ x ∧ x < 256))
end Go.Ab
end
section

end
section
namespace Go.Proofs
open Go.Ab
noncomputable def gw (x0 : Th) : Option Int :=
 need (KeysB (keysM x0.fOf)) <|
 need (MinB (keysM x0.fOf)) <|
 some (minL (keysM x0.fOf))

noncomputable def gE (x0 : Th) : Option (List Ta × Nat × Th) :=
 ((gw x0)).bind fun r1 =>
 ((gl (Th.mk x0.fb x0.fd r1 x0.fOf (addI .i64 x0.fe (subI .i64 r1 x0.fg))))).bind fun r2 =>
 some (r2.1, r2.2.1, r2.2.2)

noncomputable def ga.loop2 (x0 : Th) (x1 : Int) (s1 : Int × Int × List Int) (s2 : Int × List Int) : Option (Fl (Int × List Int) (Fl (List Int) (Fl (Int × Int × List Int) (Fl (List Int) (List Int))))) :=
 bif (pickB (ltI s2.1 (nthI (sortL (keysM x0.fOf)) s1.1)) (ltI (lenL s2.2) x1) false) then (
  need (AppB (lenL s2.2) 1 8) <|
  some (.go ((addI .i64 s2.1 1), (appL s2.2 [s2.1])))
 ) else (
  some (.out (.go s2.2))
 )

noncomputable def ga.loop1 (x0 : Th) (x1 : Int) (s1 : Int × Int × List Int) : Option (Fl (Int × Int × List Int) (Fl (List Int) (List Int))) :=
 bif (ltI s1.1 (lenL (sortL (keysM x0.fOf)))) then (
  need (InB s1.1 (lenL (sortL (keysM x0.fOf)))) <|
  ((loopF (ga.loop2 x0 x1 s1) (s1.2.1, s1.2.2)).bind fun f => flC f fun (v2 : List Int) =>
   some (.go ((addI .i64 s1.1 1), (addI .i64 (nthI (sortL (keysM x0.fOf)) s1.1) 1), v2))
  )
 ) else (
  some (.out (.go s1.2.2))
 )

noncomputable def ga (x0 : Th) (x1 : Int) : Option (List Int) :=
 need (KeysB (keysM x0.fOf)) <|
 ((loopF (ga.loop1 x0 x1) (0, x0.fg, [])).bind fun f => flC f fun (v1 : List Int) =>
  some v1
 )

noncomputable def gp.loop2  (s2 : List Ta × Tt × Bool × Int × Int × (List (Int × Ta))) : Option (Fl (List Ta × Tt × Bool × Int × Int × (List (Int × Ta))) (Fl (List Ta × Tt × Bool × Int × Int × (List (Int × Ta))) (List Ta × Int × Th))) :=
 bif (ltI s2.2.1.fk (lenL s2.2.2.2.2.2)) then (
  ((gE (Th.mk s2.2.1 s2.2.2.1 s2.2.2.2.1 s2.2.2.2.2.2 s2.2.2.2.2.1))).bind fun r2 =>
  need (AppB (lenL s2.1) (lenL r2.1) 32) <|
  some (.go ((appL s2.1 r2.1), r2.2.2.fb, r2.2.2.fd, r2.2.2.fg, r2.2.2.fe, r2.2.2.fOf))
 ) else (
  some (.out (.go (s2.1, s2.2.1, s2.2.2.1, s2.2.2.2.1, s2.2.2.2.2.1, s2.2.2.2.2.2)))
 )

noncomputable def gp (x0 : Th) (x1 : Ta) : Option (List Ta × Int × Th) :=
 ((
  bif (notB x0.fd) then (
   some (.go (true, x1.fAt))
  ) else (
   some (.go (x0.fd, x0.fg))
  )
  : Option (Fl (Bool × Int) (List Ta × Int × Th))).bind fun f => flC f fun (v1 : Bool × Int) =>
  bif (ltI x1.fAt v1.2) then (
   some ([], 13, (Th.mk x0.fb v1.1 v1.2 x0.fOf x0.fe))
  ) else (
   bif (hasM eqI x1.fAt x0.fOf) then (
    some ([], 14, (Th.mk x0.fb v1.1 v1.2 x0.fOf x0.fe))
   ) else (
    ((gl (Th.mk x0.fb v1.1 v1.2 (setM eqI x1.fAt x1 x0.fOf) x0.fe))).bind fun r1 =>
    ((loopF gp.loop2 (r1.1, r1.2.2.fb, r1.2.2.fd, r1.2.2.fg, r1.2.2.fe, r1.2.2.fOf)).bind fun f => flC f fun (v2 : List Ta × Tt × Bool × Int × Int × (List (Int × Ta))) =>
     some (v2.1, 0, (Th.mk v2.2.1 v2.2.2.1 v2.2.2.2.1 v2.2.2.2.2.2 v2.2.2.2.2.1))
    )
   )
  )
 )

noncomputable def gm.loop1 (x1 : Int) (s1 : List Ta × Tt × Bool × Int × Int × (List (Int × Ta))) : Option (Fl (List Ta × Tt × Bool × Int × Int × (List (Int × Ta))) (Fl (List Ta × Tt × Bool × Int × Int × (List (Int × Ta))) (List Ta × Th))) :=
 bif (ltI 0 (lenL s1.2.2.2.2.2)) then (
  ((gw (Th.mk s1.2.1 s1.2.2.1 s1.2.2.2.1 s1.2.2.2.2.2 s1.2.2.2.2.1))).bind fun r1 =>
  bif (ltI (subI .i64 x1 ((getM eqI r1 (Ta.mk 0 ⟨⟨[]⟩⟩ 0) s1.2.2.2.2.2).fO)) s1.2.1.fp) then (
   some (.out (.go (s1.1, s1.2.1, s1.2.2.1, s1.2.2.2.1, s1.2.2.2.2.1, s1.2.2.2.2.2)))
  ) else (
   ((gE (Th.mk s1.2.1 s1.2.2.1 s1.2.2.2.1 s1.2.2.2.2.2 s1.2.2.2.2.1))).bind fun r2 =>
   need (AppB (lenL s1.1) (lenL r2.1) 32) <|
   some (.go ((appL s1.1 r2.1), r2.2.2.fb, r2.2.2.fd, r2.2.2.fg, r2.2.2.fe, r2.2.2.fOf))
  )
 ) else (
  some (.out (.go (s1.1, s1.2.1, s1.2.2.1, s1.2.2.2.1, s1.2.2.2.2.1, s1.2.2.2.2.2)))
 )

noncomputable def gm (x0 : Th) (x1 : Int) : Option (List Ta × Th) :=
 ((loopF (gm.loop1 x1) ([], x0.fb, x0.fd, x0.fg, x0.fe, x0.fOf)).bind fun f => flC f fun (v1 : List Ta × Tt × Bool × Int × Int × (List (Int × Ta))) =>
  some (v1.1, (Th.mk v1.2.1 v1.2.2.1 v1.2.2.2.1 v1.2.2.2.2.2 v1.2.2.2.2.1))
 )
end Go.Proofs
end
section
namespace Go.Proofs
open Go.Ab
noncomputable def gZ.loop1  (s1 : Nat × List Ta × Tg) : Option (Fl (Nat × List Ta × Tg) (Fl (Nat × List Ta × Tg) (Tg × List Ta × Nat))) :=
 need (Under (ltI 0 (lenL s1.2.2.fL)) true (InB 0 (lenL s1.2.2.fL))) <|
 bif (pickB (ltI 0 (lenL s1.2.2.fL)) (eqI ((nthI s1.2.2.fL 0).fAt) s1.2.2.fg) false) then (
  need (InB 0 (lenL s1.2.2.fL)) <|
  need (AppB (lenL s1.2.1) 1 32) <|
  need (CutB 1 (lenL s1.2.2.fL) (lenL s1.2.2.fL)) <|
  some (.go ((s1.1 + 1), (appL s1.2.1 [(nthI s1.2.2.fL 0)]), (Tg.mk s1.2.2.fk s1.2.2.fp s1.2.2.fd (addI .i64 s1.2.2.fg 1) (cutL s1.2.2.fL 1 (lenL s1.2.2.fL)) s1.2.2.fe)))
 ) else (
  some (.out (.go (s1.1, s1.2.1, s1.2.2)))
 )

noncomputable def gZ (x0 : Tg) : Option (Tg × List Ta × Nat) :=
 ((loopF gZ.loop1 (0, [], x0)).bind fun f => flC f fun (v1 : Nat × List Ta × Tg) =>
  some (v1.2.2, v1.2.1, v1.1)
 )

noncomputable def gax (x0 : Tg) : Option (Tg × List Ta × Nat) :=
 need (InB 0 (lenL x0.fL)) <|
 need (InB 0 (lenL x0.fL)) <|
 ((gZ (Tg.mk x0.fk x0.fp x0.fd ((nthI x0.fL 0).fAt) x0.fL (addI .i64 x0.fe (subI .i64 ((nthI x0.fL 0).fAt) x0.fg))))).bind fun r1 =>
 some (r1.1, r1.2.1, r1.2.2)

noncomputable def gW.loop1 (x0 : List Ta) (x1 : Ta) (s1 : Int × Bool × List Ta) : Option (Fl (Int × Bool × List Ta) (Fl (Bool × List Ta) (List Ta))) :=
 bif (ltI s1.1 (lenL x0)) then (
  need (InB s1.1 (lenL x0)) <|
  ((
   bif (pickB (notB s1.2.1) (ltI x1.fAt ((nthI x0 s1.1).fAt)) false) then (
    need (AppB (lenL s1.2.2) 1 32) <|
    some (.go (true, (appL s1.2.2 [x1])))
   ) else (
    some (.go (s1.2.1, s1.2.2))
   )
   : Option (Fl (Bool × List Ta) (Fl (Int × Bool × List Ta) (Fl (Bool × List Ta) (List Ta))))).bind fun f => flC f fun (v2 : Bool × List Ta) =>
   need (AppB (lenL v2.2) 1 32) <|
   some (.go ((addI .i64 s1.1 1), v2.1, (appL v2.2 [(nthI x0 s1.1)])))
  )
 ) else (
  some (.out (.go (s1.2.1, s1.2.2)))
 )

noncomputable def gW (x0 : List Ta) (x1 : Ta) : Option (List Ta) :=
 ((loopF (gW.loop1 x0 x1) (0, false, [])).bind fun f => flC f fun (v1 : Bool × List Ta) =>
  ((
   bif (notB v1.1) then (
    need (AppB (lenL v1.2) 1 32) <|
    some (.go (appL v1.2 [x1]))
   ) else (
    some (.go v1.2)
   )
   : Option (Fl (List Ta) (List Ta))).bind fun f => flC f fun (v3 : List Ta) =>
   some v3
  )
 )

noncomputable def gB.loop2 (x1 : Ta) (v1 : Tg) (s2 : Int) : Option (Fl Int (Fl Unit (Tg × List Ta × Int))) :=
 bif (ltI s2 (lenL v1.fL)) then (
  need (InB s2 (lenL v1.fL)) <|
  bif (eqI ((nthI v1.fL s2).fAt) x1.fAt) then (
   some (.out (.out (v1, [], 14)))
  ) else (
   some (.go (addI .i64 s2 1))
  )
 ) else (
  some (.out (.go ()))
 )

noncomputable def gB.loop3  (s3 : List Ta × Tg) : Option (Fl (List Ta × Tg) (Fl (List Ta × Tg) (Tg × List Ta × Int))) :=
 bif (ltI s3.2.fk (lenL s3.2.fL)) then (
  ((gax s3.2)).bind fun r3 =>
  need (AppB (lenL s3.1) (lenL r3.2.1) 32) <|
  some (.go ((appL s3.1 r3.2.1), r3.1))
 ) else (
  some (.out (.go (s3.1, s3.2)))
 )

noncomputable def gB (x0 : Tg) (x1 : Ta) : Option (Tg × List Ta × Int) :=
 ((
  bif (notB x0.fd) then (
   some (.go (Tg.mk x0.fk x0.fp true x1.fAt x0.fL x0.fe))
  ) else (
   some (.go x0)
  )
  : Option (Fl Tg (Tg × List Ta × Int))).bind fun f => flC f fun (v1 : Tg) =>
  bif (ltI x1.fAt v1.fg) then (
   some (v1, [], 13)
  ) else (
   ((loopF (gB.loop2 x1 v1) 0).bind fun f => flC f fun (_v2 : Unit) =>
    ((gW v1.fL x1)).bind fun r1 =>
    ((gZ (Tg.mk v1.fk v1.fp v1.fd v1.fg r1 v1.fe))).bind fun r2 =>
    ((loopF gB.loop3 (r2.2.1, r2.1)).bind fun f => flC f fun (v3 : List Ta × Tg) =>
     some (v3.2, v3.1, 0)
    )
   )
  )
 )

noncomputable def gag.loop1 (x1 : Int) (s1 : List Ta × Tg) : Option (Fl (List Ta × Tg) (Fl (List Ta × Tg) (Tg × List Ta))) :=
 need (Under (ltI 0 (lenL s1.2.fL)) true (InB 0 (lenL s1.2.fL))) <|
 bif (pickB (ltI 0 (lenL s1.2.fL)) (leqI s1.2.fp (subI .i64 x1 ((nthI s1.2.fL 0).fO))) false) then (
  ((gax s1.2)).bind fun r1 =>
  need (AppB (lenL s1.1) (lenL r1.2.1) 32) <|
  some (.go ((appL s1.1 r1.2.1), r1.1))
 ) else (
  some (.out (.go (s1.1, s1.2)))
 )

noncomputable def gag (x0 : Tg) (x1 : Int) : Option (Tg × List Ta) :=
 ((loopF (gag.loop1 x1) ([], x0)).bind fun f => flC f fun (v1 : List Ta × Tg) =>
  some (v1.2, v1.1)
 )

noncomputable def gh.loop2 (x0 : Tg) (x1 : Int) (s1 : Int × Int × List Int) (s2 : Int × List Int) : Option (Fl (Int × List Int) (Fl (List Int) (Fl (Int × Int × List Int) (Fl (List Int) (List Int))))) :=
 bif (pickB (ltI s2.1 ((nthI x0.fL s1.1).fAt)) (ltI (lenL s2.2) x1) false) then (
  need (AppB (lenL s2.2) 1 8) <|
  some (.go ((addI .i64 s2.1 1), (appL s2.2 [s2.1])))
 ) else (
  some (.out (.go s2.2))
 )

noncomputable def gh.loop1 (x0 : Tg) (x1 : Int) (s1 : Int × Int × List Int) : Option (Fl (Int × Int × List Int) (Fl (List Int) (List Int))) :=
 bif (ltI s1.1 (lenL x0.fL)) then (
  need (InB s1.1 (lenL x0.fL)) <|
  ((loopF (gh.loop2 x0 x1 s1) (s1.2.1, s1.2.2)).bind fun f => flC f fun (v2 : List Int) =>
   some (.go ((addI .i64 s1.1 1), (addI .i64 ((nthI x0.fL s1.1).fAt) 1), v2))
  )
 ) else (
  some (.out (.go s1.2.2))
 )

noncomputable def gh (x0 : Tg) (x1 : Int) : Option (List Int) :=
 ((loopF (gh.loop1 x0 x1) (0, x0.fg, [])).bind fun f => flC f fun (v1 : List Int) =>
  some v1
 )
end Go.Proofs
end
section
namespace Go.Proofs
open Go.Ab
noncomputable def gk.loop2 (x0 : List Int) (s2 : Int × Int) : Option (Fl (Int × Int) (Fl Int Int)) :=
 bif (ltI s2.1 (lenL x0)) then (
  need (InB s2.1 (lenL x0)) <|
  some (.go ((addI .i64 s2.1 1), (minI s2.2 (nthI x0 s2.1))))
 ) else (
  some (.out (.go s2.2))
 )

noncomputable def gk (x0 : List Int) : Option Int :=
 ((
  bif (ltI (lenL x0) 1) then (
   none
  ) else (
   some (.go ())
  )
  : Option (Fl Unit Int)).bind fun f => flC f fun (_v1 : Unit) =>
  need (InB 0 (lenL x0)) <|
  ((loopF (gk.loop2 x0) (1, (nthI x0 0))).bind fun f => flC f fun (v2 : Int) =>
   some v2
  )
 )
end Go.Proofs
end
section
namespace Go.Proofs
open Go.Ab
@[simp] def gk.out (_x0 : List Int) (r : Int) : Out := { av := .lit (.int .i64 r), M := none }
def gk.fin (x0 : List Int) (r : Int) (σ : St) : Prop := finK (gk.out x0 r) [] σ.M (resA Tryz.ty σ.A σ.M Tryz.f81.results.toList)
set_option maxHeartbeats 4000000 in
set_option maxRecDepth 100000 in
theorem gk.can (x0 : List Int) (r : Int) (hr : gk x0 = some r) : CallOk Tryz.prog 81 [.sl (x0.map (eNum .i64)) .no] [] (gk.out x0 r) := by
 unfold gk at hr
 have hΓ := gamL_nil (P := Tryz.prog)
 refine Le Tryz.tyOk Tryz.func81 rfl (by kernel_rfl) rfl rfl (by simp) ?_
 intro _ _ _
 refine AWp.then ⟨[⟨0, none, .sl (x0.map (eNum .i64)) .no⟩], []⟩ (AWp.reg Tryz.tyOk hΓ [] [] (by kernel_rfl) rfl (by simp)) ?_
 refine AWp.meetF (fun (v1 : Unit) (γ1 : Unit) => ⟨[⟨0, none, .sl (x0.map (eNum .i64)) .no⟩], []⟩) (gk.fin x0) hr (fun f hr => ?_) (fun v1 γ1 hr => ?_) (fun _ h => h)
 ·refine AWp.then ⟨[⟨7, none, .b (ltI (lenL x0) 1)⟩, ⟨0, none, .sl (x0.map (eNum .i64)) .no⟩], []⟩ (AWp.reg Tryz.tyOk hΓ [7] [] (by kernel_rfl) rfl (by simp)) ?_
  refine AWp.cond (b := (ltI (lenL x0) 1)) (by simp) (fun h5 => ?_) (fun h5 => ?_)
  ·have hr := Li h5 hr
   cases hr
  ·have hr := Lj h5 hr
   refine AWp.skip ?_
   obtain rfl := La hr
   exact Ll () 0 (by first | (simp; done) | simp [h5])
 ·obtain ⟨h6, hr⟩ := Lc hr
  refine AWp.then ⟨[⟨3, none, .n (nthI x0 0)⟩, ⟨0, none, .sl (x0.map (eNum .i64)) .no⟩], []⟩ (AWp.reg Tryz.tyOk hΓ [3] [] (by kernel_rfl) rfl (by simp [h6])) ?_
  refine AWp.seq ?_
  refine AWp.then ⟨[⟨4, none, .n 1⟩, ⟨3, none, .n (nthI x0 0)⟩, ⟨0, none, .sl (x0.map (eNum .i64)) .no⟩], []⟩ (AWp.reg Tryz.tyOk hΓ [4] [] (by kernel_rfl) rfl (by simp)) ?_
  refine AWp.loopE (fun (s2 : Int × Int) (γ2 : Unit) => ⟨[⟨4, none, .n s2.1⟩, ⟨3, none, .n s2.2⟩, ⟨0, none, .sl (x0.map (eNum .i64)) .no⟩], []⟩) (fun (v2 : Int) (γ2a : Unit) => ⟨[⟨3, none, .n v2⟩], []⟩) (gk.fin x0) hr () 0 (by simp) (fun s2 f γ2 hr => ?_) (fun v2 γ2a σ1 m1 hr hc => ?_) (fun _ h => h)
  ·unfold gk.loop2 at hr
   refine AWp.seq ?_
   refine AWp.then ⟨[⟨15, none, .b (ltI s2.1 (lenL x0))⟩, ⟨4, none, .n s2.1⟩, ⟨3, none, .n s2.2⟩, ⟨0, none, .sl (x0.map (eNum .i64)) .no⟩], []⟩ (AWp.reg Tryz.tyOk hΓ [15] [] (by kernel_rfl) rfl (by simp)) ?_
   refine AWp.cond (b := (ltI s2.1 (lenL x0))) (by simp) (fun h7 => ?_) (fun h7 => ?_)
   ·have hr := Li h7 hr
    refine AWp.skip ?_
    refine AWp.seq ?_
    refine AWp.block ?_
    obtain ⟨h8, hr⟩ := Lc hr
    refine AWp.last ⟨[⟨3, none, .n (minI s2.2 (nthI x0 s2.1))⟩, ⟨4, none, .n s2.1⟩, ⟨0, none, .sl (x0.map (eNum .i64)) .no⟩], []⟩ (AWp.reg Tryz.tyOk hΓ [3] [15] (by kernel_rfl) rfl (by simp [h7, h8])) ?_
    refine AWp.last ⟨[⟨4, none, .n (addI .i64 s2.1 1)⟩, ⟨3, none, .n (minI s2.2 (nthI x0 s2.1))⟩, ⟨0, none, .sl (x0.map (eNum .i64)) .no⟩], []⟩ (AWp.reg Tryz.tyOk hΓ [4] [] (by kernel_rfl) rfl (by simp)) ?_
    obtain rfl := La hr
    exact Lq () 0 (by first | (simp; done) | simp [h6, h7, h8])
   ·have hr := Lj h7 hr
    refine AWp.exit ?_
    obtain rfl := La hr
    exact Lo () 0 (by first | (simp; done) | simp [h6, h7])
  ·refine AWp.conv hc ?_
   refine AWp.then ⟨[⟨2, none, .n v2⟩], []⟩ (AWp.reg Tryz.tyOk hΓ [2] [3] (by kernel_rfl) rfl (by simp)) ?_
   refine AWp.ret ?_
   obtain rfl := La hr
   refine Lf ?_
   simp

@[simp] noncomputable def gk.S : Sp
 | [.sl e0 _], _ => some { av := .lit (.int .i64 ((gk (e0.map decI)).getD dflt)), M := none, obl := e0 = (e0.map decI).map (eNum .i64) ∧ (gk (e0.map decI)).isSome = true }
 | _, _ => none

set_option maxHeartbeats 1000000 in
theorem gk.ok : SpecOk Tryz.prog 81 gk.S := by
 intro l M out h
 unfold gk.S at h
 split at h
 ·rename_i e0 k0
  cases h
  refine callOk_of fun ho => ?_
  obtain ⟨ox0, hs⟩ := ho
  generalize (e0.map decI) = x0 at *
  subst ox0
  obtain ⟨r, hr⟩ := Option.isSome_iff_exists.1 hs
  simp only [hr, Option.getD_some]
  have q := Lg (M := M) [] (gk.can x0 r hr) (by simp) rfl (by intro k i hk; simp at hk)
  exact callOk_conv q trivial (by simp) (by simp [frameOut, gk.out]) (by simp [frameOut, gk.out])
 ·cases h
end Go.Proofs
end
