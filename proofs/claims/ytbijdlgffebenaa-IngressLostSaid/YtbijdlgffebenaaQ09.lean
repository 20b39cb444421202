/- What these functions compute, as plain functions. No condition. -/
import Derived.Test.YtbijdlgffebenaaTs
import Derived.Test.YtbijdlgffebenaaQ05
import Derived.Test.YtbijdlgffebenaaQ02
section
namespace Go.Proofs
open Go.Ab
noncomputable def gak (x0 : ByteArray) : Option Tj :=
 some (Tj.mk x0 0)

noncomputable def gZ (x0 : Tj) : Option Int :=
 some (lenS x0.fS)

noncomputable def gW (x0 : Tj) : Option Int :=
 some x0.fE

noncomputable def gO (x0 : Tj) (x1 : Int) : Option Tj :=
 bif (pickB (eqI x0.fE 0) (neI x1 0) false) then (
  some (Tj.mk ⟨#[]⟩ x1)
 ) else (
  some x0
 )

noncomputable def gu (x0 : Tj) (x1 : Int) : Option (ByteArray × Tj) :=
 bif (neI x0.fE 0) then (
  some (⟨#[]⟩, x0)
 ) else (
  bif (ltI x1 0) then (
   ((gO x0 5)).bind fun r1 =>
   some (⟨#[]⟩, r1)
  ) else (
   bif (ltI (lenS x0.fS) x1) then (
    ((gO x0 1)).bind fun r2 =>
    some (⟨#[]⟩, r2)
   ) else (
    need (CutB 0 x1 (lenS x0.fS)) <|
    need (CutB x1 (lenS x0.fS) (lenS x0.fS)) <|
    some ((cutS x0.fS 0 x1), (Tj.mk (cutS x0.fS x1 (lenS x0.fS)) x0.fE))
   )
  )
 )

noncomputable def gp.loop1 (r1 : ByteArray × Tj) (s1 : Int × Int) : Option (Fl (Int × Int) (Fl Int (Int × Tj))) :=
 bif (ltI s1.1 (lenL (numsOf r1.1))) then (
  need (InB s1.1 (lenL (numsOf r1.1))) <|
  need (NonN 8) <|
  some (.go ((addI .i64 s1.1 1), (bitsOp .or .u64 (shlI .u64 s1.2 8) (cvtI .u64 (nthI (numsOf r1.1) s1.1)))))
 ) else (
  some (.out (.go s1.2))
 )

noncomputable def gp (x0 : Tj) (x1 : Int) : Option (Int × Tj) :=
 ((gu x0 (minI (maxI x1 1) 8))).bind fun r1 =>
 ((loopF (gp.loop1 r1) (0, 0)).bind fun f => flC f fun (v1 : Int) =>
  some (v1, r1.2)
 )

noncomputable def gB (x0 : Tj) : Option (Int × Tj) :=
 ((gp x0 1)).bind fun r1 =>
 some ((cvtI .u8 r1.1), r1.2)

noncomputable def gI (x0 : Tj) : Option (ByteArray × Tj) :=
 ((gZ x0)).bind fun r1 =>
 ((gu x0 r1)).bind fun r2 =>
 some (r2.1, r2.2)

noncomputable def gac : Option Td :=
 some (Td.mk false false 0 (-1) false (-1) (-1) false (-1))

noncomputable def gao (x0 : Bool) (x1 : Int) : Option Int :=
 bif x0 then (
  some x1
 ) else (
  some 0
 )

noncomputable def gaj (x0 : Td) : Option Bool :=
 some (pickB (pickB (pickB (leqI 0 x0.fB) true (leqI 0 x0.fH)) true (leqI 0 x0.fI)) true (leqI 0 x0.fJ))

noncomputable def gab (x0 : Td) : Option ByteArray :=
 ((gaj x0)).bind fun r1 =>
 ((gao r1 128)).bind fun r2 =>
 ((gao x0.fK 32)).bind fun r3 =>
 ((gao x0.fy 16)).bind fun r4 =>
 need (AppB 0 1 1) <|
 bif (notB r1) then (
  need (TextB (appL [] [(bitsOp .or .u8 (bitsOp .or .u8 (bitsOp .or .u8 r2 r3) r4) (cvtI .u8 (bitsOp .and .i64 x0.fG 7)))])) <|
  some (strOfNums (appL [] [(bitsOp .or .u8 (bitsOp .or .u8 (bitsOp .or .u8 r2 r3) r4) (cvtI .u8 (bitsOp .and .i64 x0.fG 7)))]))
 ) else (
  ((gao (leqI 0 x0.fB) 128)).bind fun r5 =>
  ((gao (leqI 0 x0.fH) 64)).bind fun r6 =>
  ((gao (leqI 0 x0.fI) 32)).bind fun r7 =>
  ((gao (leqI 0 x0.fJ) 16)).bind fun r8 =>
  need (AppB 1 1 1) <|
  ((
   bif (pickB (leqI 0 x0.fB) x0.fU false) then (
    none
   ) else (
    bif (leqI 0 x0.fB) then (
     need (AppB 2 1 1) <|
     some (.go (appL (appL (appL [] [(bitsOp .or .u8 (bitsOp .or .u8 (bitsOp .or .u8 r2 r3) r4) (cvtI .u8 (bitsOp .and .i64 x0.fG 7)))]) [(bitsOp .or .u8 (bitsOp .or .u8 (bitsOp .or .u8 r5 r6) r7) r8)]) [(cvtI .u8 (bitsOp .and .i64 x0.fB 127))]))
    ) else (
     some (.go (appL (appL [] [(bitsOp .or .u8 (bitsOp .or .u8 (bitsOp .or .u8 r2 r3) r4) (cvtI .u8 (bitsOp .and .i64 x0.fG 7)))]) [(bitsOp .or .u8 (bitsOp .or .u8 (bitsOp .or .u8 r5 r6) r7) r8)]))
    )
   )
   : Option (Fl (List Int) ByteArray)).bind fun f => flC f fun (v1 : List Int) =>
   ((
    bif (leqI 0 x0.fH) then (
     need (AppB (lenL v1) 1 1) <|
     some (.go (appL v1 [(cvtI .u8 x0.fH)]))
    ) else (
     some (.go v1)
    )
    : Option (Fl (List Int) ByteArray)).bind fun f => flC f fun (v2 : List Int) =>
    ((
     bif (pickB (leqI 0 x0.fI) true (leqI 0 x0.fJ)) then (
      need (NonN 6) <|
      ((gao x0.fR 32)).bind fun r9 =>
      need (AppB (lenL v2) 1 1) <|
      some (.go (appL v2 [(bitsOp .or .u8 (bitsOp .or .u8 (shlI .u8 (cvtI .u8 (maxI x0.fI 0)) 6) r9) (cvtI .u8 (maxI x0.fJ 0)))]))
     ) else (
      some (.go v2)
     )
     : Option (Fl (List Int) ByteArray)).bind fun f => flC f fun (v3 : List Int) =>
     need (TextB v3) <|
     some (strOfNums v3)
    )
   )
  )
 )

noncomputable def gX (x0 : Td) (x1 : Tj) : Option (Td × Tj) :=
 ((gB x1)).bind fun r1 =>
 ((
  bif (ltI 127 (cvtI .i64 r1.1)) then (
   need (NonN 8) <|
   ((gB r1.2)).bind fun r2 =>
   some (.go ((bitsOp .or .i64 (shlI .i64 (bitsOp .and .i64 (cvtI .i64 r1.1) 127) 8) (cvtI .i64 r2.1)), r2.2, (Td.mk x0.fK x0.fy x0.fG x0.fB true x0.fH x0.fI x0.fR x0.fJ)))
  ) else (
   some (.go ((cvtI .i64 r1.1), r1.2, (Td.mk x0.fK x0.fy x0.fG x0.fB false x0.fH x0.fI x0.fR x0.fJ)))
  )
  : Option (Fl (Int × Tj × Td) (Td × Tj))).bind fun f => flC f fun (v1 : Int × Tj × Td) =>
  some ((Td.mk v1.2.2.fK v1.2.2.fy v1.2.2.fG v1.1 v1.2.2.fU v1.2.2.fH v1.2.2.fI v1.2.2.fR v1.2.2.fJ), v1.2.1)
 )

noncomputable def gah (x0 : ByteArray) : Option (Td × ByteArray × Int) :=
 ((gak x0)).bind fun r1 =>
 ((gB r1)).bind fun r2 =>
 (gac).bind fun r3 =>
 ((
  bif (ltI 127 r2.1) then (
   ((gB r2.2)).bind fun r4 =>
   some (.go (r4.1, r4.2))
  ) else (
   some (.go (0, r2.2))
  )
  : Option (Fl (Int × Tj) (Td × ByteArray × Int))).bind fun f => flC f fun (v1 : Int × Tj) =>
  ((
   bif (ltI 0 (bitsOp .and .u8 v1.1 128)) then (
    ((gX (Td.mk (ltI 0 (bitsOp .and .u8 r2.1 32)) (ltI 0 (bitsOp .and .u8 r2.1 16)) (cvtI .i64 (bitsOp .and .u8 r2.1 7)) r3.fB r3.fU r3.fH r3.fI r3.fR r3.fJ) v1.2)).bind fun r5 =>
    some (.go (r5.2, r5.1))
   ) else (
    some (.go (v1.2, (Td.mk (ltI 0 (bitsOp .and .u8 r2.1 32)) (ltI 0 (bitsOp .and .u8 r2.1 16)) (cvtI .i64 (bitsOp .and .u8 r2.1 7)) r3.fB r3.fU r3.fH r3.fI r3.fR r3.fJ)))
   )
   : Option (Fl (Tj × Td) (Td × ByteArray × Int))).bind fun f => flC f fun (v2 : Tj × Td) =>
   ((
    bif (ltI 0 (bitsOp .and .u8 v1.1 64)) then (
     ((gB v2.1)).bind fun r6 =>
     some (.go (r6.2, (Td.mk v2.2.fK v2.2.fy v2.2.fG v2.2.fB v2.2.fU (cvtI .i64 r6.1) v2.2.fI v2.2.fR v2.2.fJ)))
    ) else (
     some (.go (v2.1, v2.2))
    )
    : Option (Fl (Tj × Td) (Td × ByteArray × Int))).bind fun f => flC f fun (v3 : Tj × Td) =>
    ((
     bif (ltI 0 (bitsOp .and .u8 v1.1 48)) then (
      ((gB v3.1)).bind fun r7 =>
      ((
       bif (ltI 0 (bitsOp .and .u8 v1.1 32)) then (
        need (NonN 6) <|
        some (.go (Td.mk v3.2.fK v3.2.fy v3.2.fG v3.2.fB v3.2.fU v3.2.fH (cvtI .i64 (shrI .u8 r7.1 6)) (ltI 0 (bitsOp .and .u8 r7.1 32)) v3.2.fJ))
       ) else (
        some (.go v3.2)
       )
       : Option (Fl Td (Fl (Tj × Td) (Td × ByteArray × Int)))).bind fun f => flC f fun (v5 : Td) =>
       bif (ltI 0 (bitsOp .and .u8 v1.1 16)) then (
        some (.go (r7.2, (Td.mk v5.fK v5.fy v5.fG v5.fB v5.fU v5.fH v5.fI v5.fR (cvtI .i64 (bitsOp .and .u8 r7.1 31)))))
       ) else (
        some (.go (r7.2, v5))
       )
      )
     ) else (
      some (.go (v3.1, v3.2))
     )
     : Option (Fl (Tj × Td) (Td × ByteArray × Int))).bind fun f => flC f fun (v4 : Tj × Td) =>
     ((gW v4.1)).bind fun r8 =>
     bif (neI r8 0) then (
      some ((Td.mk false false 0 0 false 0 0 false 0), ⟨#[]⟩, r8)
     ) else (
      ((gI v4.1)).bind fun r9 =>
      some (v4.2, r9.1, 0)
     )
    )
   )
  )
 )

noncomputable def gaf (x0 : Td) (x1 : ByteArray) : Option Bool :=
 need (Under (pickB (pickB x0.fy (eqI x0.fG 0) false) (neS x1 ⟨#[]⟩) false) true (InB 0 (lenS x1))) <|
 some (pickB (pickB (pickB x0.fy (eqI x0.fG 0) false) (neS x1 ⟨#[]⟩) false) (eqI (bitsOp .and .u8 (idxS x1 0) 1) 0) false)
end Go.Proofs
end
section
namespace Go.Proofs
open Go.Ab
noncomputable def gaD (x0 : List Int) : Option (List Int) :=
 need (CutB 0 (lenL x0) (lenL x0)) <|
 some (cutL x0 0 (lenL x0))

noncomputable def gQ (x0 : Tu) : Option Int :=
 ((gq x0.fo)).bind fun r1 =>
 bif (neI r1 0) then (
  some r1
 ) else (
  ((gy x0.fD)).bind fun r2 =>
  some r2
 )

noncomputable def gY (x0 : Tu) : Option (Option Tf × Int) :=
 ((gaa x0.fo)).bind fun r1 =>
 optC r1.1 (
  bif (neI r1.2 0) then (
   some (none, r1.2)
  ) else (
   ((gae x0.fD)).bind fun r2 =>
   optC r2.1 (
    bif (neI r2.2 0) then (
     some (none, r2.2)
    ) else (
     none
    )
   ) fun _o2 => (
    bif (neI r2.2 0) then (
     some (none, r2.2)
    ) else (
     none
    )
   )
  )
 ) fun o1 => (
  bif (neI r1.2 0) then (
   some (none, r1.2)
  ) else (
   ((gae x0.fD)).bind fun r2 =>
   optC r2.1 (
    bif (neI r2.2 0) then (
     some (none, r2.2)
    ) else (
     none
    )
   ) fun o2 => (
    bif (neI r2.2 0) then (
     some (none, r2.2)
    ) else (
     some ((some (Tf.mk o1 o2 (Tv.mk false 0 0 0 0) (Tt.mk false 0) [] 0 0)), 0)
    )
   )
  )
 )

noncomputable def gA (x0 : Tf) : Option Int :=
 some x0.fp

noncomputable def gv (x0 : Tf) : Option (Int × Int) :=
 ((gJ x0.fc)).bind fun r1 =>
 some (r1.1, r1.2)

noncomputable def gaA (x0 : Tf) : Option Int :=
 some x0.fm

noncomputable def gE (x0 : Tf) (x1 : Ta) : Option (Tc × Tf) :=
 ((gf (Tf.mk x0.fa x0.fc x0.ff x0.fh (delM eqI x1.fAt x0.fOf) x0.fp x0.fm) ((getM eqI x1.fAt (Tb.mk false 0 0 0 0 [] false 0 ⟨⟨[]⟩⟩ ⟨⟨[]⟩⟩ 0) x0.fOf).fQ))).bind fun r1 =>
 ((
  ((gah ((getM eqI x1.fAt (Tb.mk false 0 0 0 0 [] false 0 ⟨⟨[]⟩⟩ ⟨⟨[]⟩⟩ 0) x0.fOf).fF))).bind fun r2 =>
  bif (pickB r1.2.fc.fb.fu (eqI r2.2.2 0) false) then (
   ((gaf r2.1 r2.2.1)).bind fun r3 =>
   some (.go (Tc.mk x1.fAt r1.1 ((getM eqI x1.fAt (Tb.mk false 0 0 0 0 [] false 0 ⟨⟨[]⟩⟩ ⟨⟨[]⟩⟩ 0) x0.fOf).fA) (pickB r2.1.fy (eqI r2.1.fG 0) false) r3 ((getM eqI x1.fAt (Tb.mk false 0 0 0 0 [] false 0 ⟨⟨[]⟩⟩ ⟨⟨[]⟩⟩ 0) x0.fOf).fF) x1.fO))
  ) else (
   some (.go (Tc.mk x1.fAt r1.1 ((getM eqI x1.fAt (Tb.mk false 0 0 0 0 [] false 0 ⟨⟨[]⟩⟩ ⟨⟨[]⟩⟩ 0) x0.fOf).fA) false false ((getM eqI x1.fAt (Tb.mk false 0 0 0 0 [] false 0 ⟨⟨[]⟩⟩ ⟨⟨[]⟩⟩ 0) x0.fOf).fF) x1.fO))
  )
  : Option (Fl Tc (Tc × Tf))).bind fun f => flC f fun (v1 : Tc) =>
  some (v1, r1.2)
 )

noncomputable def ge.loop1 (x1 : List Ta) (s1 : Int × Tv × Tt × Int × Int × Tk × Bool × Int × Int × (List (Int × Ta)) × Th × (List (Int × Tb)) × List Tl) : Option (Fl (Int × Tv × Tt × Int × Int × Tk × Bool × Int × Int × (List (Int × Ta)) × Th × (List (Int × Tb)) × List Tl) (Fl (List Tl × Tv × Tt × Int × Int × Tk × Bool × Int × Int × (List (Int × Ta)) × Th × (List (Int × Tb))) (List Tl × Tf))) :=
 bif (ltI s1.1 (lenL x1)) then (
  need (InB s1.1 (lenL x1)) <|
  ((gE (Tf.mk (Tg.mk s1.2.2.2.2.2.1 s1.2.2.2.2.2.2.1 s1.2.2.2.2.2.2.2.1 s1.2.2.2.2.2.2.2.2.2.1 s1.2.2.2.2.2.2.2.2.1) s1.2.2.2.2.2.2.2.2.2.2.1 s1.2.1 s1.2.2.1 s1.2.2.2.2.2.2.2.2.2.2.2.1 s1.2.2.2.1 s1.2.2.2.2.1) (nthI x1 s1.1))).bind fun r1 =>
  ((gV r1.2.fc r1.1)).bind fun r2 =>
  bif (notB r2.2.1) then (
   some (.go ((addI .i64 s1.1 1), r1.2.ff, r1.2.fh, r1.2.fp, r1.2.fm, r1.2.fa.fb, r1.2.fa.fd, r1.2.fa.fg, r1.2.fa.fe, r1.2.fa.fOf, r2.2.2, r1.2.fOf, s1.2.2.2.2.2.2.2.2.2.2.2.2))
  ) else (
   ((
    ((gG r2.1)).bind fun r3 =>
    bif r3 then (
     some (.go (addI .i64 r1.2.fm 1))
    ) else (
     some (.go r1.2.fm)
    )
    : Option (Fl Int (Fl (Int × Tv × Tt × Int × Int × Tk × Bool × Int × Int × (List (Int × Ta)) × Th × (List (Int × Tb)) × List Tl) (Fl (List Tl × Tv × Tt × Int × Int × Tk × Bool × Int × Int × (List (Int × Ta)) × Th × (List (Int × Tb))) (List Tl × Tf))))).bind fun f => flC f fun (v2 : Int) =>
    need (AppB (lenL s1.2.2.2.2.2.2.2.2.2.2.2.2) 1 24) <|
    some (.go ((addI .i64 s1.1 1), r1.2.ff, r1.2.fh, r1.2.fp, v2, r1.2.fa.fb, r1.2.fa.fd, r1.2.fa.fg, r1.2.fa.fe, r1.2.fa.fOf, r2.2.2, r1.2.fOf, (appL s1.2.2.2.2.2.2.2.2.2.2.2.2 [r2.1])))
   )
  )
 ) else (
  some (.out (.go (s1.2.2.2.2.2.2.2.2.2.2.2.2, s1.2.1, s1.2.2.1, s1.2.2.2.1, s1.2.2.2.2.1, s1.2.2.2.2.2.1, s1.2.2.2.2.2.2.1, s1.2.2.2.2.2.2.2.1, s1.2.2.2.2.2.2.2.2.1, s1.2.2.2.2.2.2.2.2.2.1, s1.2.2.2.2.2.2.2.2.2.2.1, s1.2.2.2.2.2.2.2.2.2.2.2.1)))
 )

noncomputable def ge (x0 : Tf) (x1 : List Ta) : Option (List Tl × Tf) :=
 ((loopF (ge.loop1 x1) (0, x0.ff, x0.fh, x0.fp, x0.fm, x0.fa.fb, x0.fa.fd, x0.fa.fg, x0.fa.fe, x0.fa.fOf, x0.fc, x0.fOf, [])).bind fun f => flC f fun (v1 : List Tl × Tv × Tt × Int × Int × Tk × Bool × Int × Int × (List (Int × Ta)) × Th × (List (Int × Tb))) =>
  some (v1.1, (Tf.mk (Tg.mk v1.2.2.2.2.2.1 v1.2.2.2.2.2.2.1 v1.2.2.2.2.2.2.2.1 v1.2.2.2.2.2.2.2.2.2.1 v1.2.2.2.2.2.2.2.2.1) v1.2.2.2.2.2.2.2.2.2.2.1 v1.2.1 v1.2.2.1 v1.2.2.2.2.2.2.2.2.2.2.2 v1.2.2.2.1 v1.2.2.2.2.1))
 )

noncomputable def gl (x0 : Tf) (x1 : Tb) (x2 : Int) : Option (List Tl × Int × Tf) :=
 ((gg x0 x1.ff)).bind fun r1 =>
 bif (notB r1.2.1) then (
  some ([], 13, (Tf.mk r1.2.2.fa r1.2.2.fc r1.2.2.ff r1.2.2.fh r1.2.2.fOf (addI .i64 r1.2.2.fp 1) r1.2.2.fm))
 ) else (
  ((
   bif (eqS x1.fF ⟨#[]⟩) then (
    some (.go (Tb.mk false x1.fab x1.ff x1.fQ x1.fac x1.faa x1.fae x1.fY x1.fad x1.fF x1.fZ))
   ) else (
    some (.go x1)
   )
   : Option (Fl Tb (List Tl × Int × Tf))).bind fun f => flC f fun (v1 : Tb) =>
   ((
    bif (notB (hasM eqI r1.1 r1.2.2.fOf)) then (
     some (.go (setM eqI r1.1 v1 r1.2.2.fOf))
    ) else (
     some (.go r1.2.2.fOf)
    )
    : Option (Fl (List (Int × Tb)) (List Tl × Int × Tf))).bind fun f => flC f fun (v2 : (List (Int × Tb))) =>
    ((gm r1.2.2.fa (Ta.mk r1.1 ⟨#[]⟩ x2))).bind fun r2 =>
    bif (neI r2.2.1 0) then (
     ((
      bif (eqI r2.2.1 13) then (
       some (.go (delM eqI r1.1 v2))
      ) else (
       some (.go v2)
      )
      : Option (Fl (List (Int × Tb)) (List Tl × Int × Tf))).bind fun f => flC f fun (v3 : (List (Int × Tb))) =>
      some ([], r2.2.1, (Tf.mk r2.2.2 r1.2.2.fc r1.2.2.ff r1.2.2.fh v3 (addI .i64 r1.2.2.fp 1) r1.2.2.fm))
     )
    ) else (
     ((ge (Tf.mk r2.2.2 r1.2.2.fc r1.2.2.ff r1.2.2.fh v2 r1.2.2.fp r1.2.2.fm) r2.1)).bind fun r3 =>
     some (r3.1, 0, r3.2)
    )
   )
  )
 )

noncomputable def gD (x0 : Tf) (x1 : Int) : Option (List Tl × Tf) :=
 ((gk x0.fa x1)).bind fun r1 =>
 ((ge (Tf.mk r1.2 x0.fc x0.ff x0.fh x0.fOf x0.fp x0.fm) r1.1)).bind fun r2 =>
 ((gP r2.2.fc x1)).bind fun r3 =>
 some (r2.1, (Tf.mk r2.2.fa r3.2 r2.2.ff r2.2.fh r2.2.fOf r2.2.fp r2.2.fm))

noncomputable def gal.loop1 (r1 : List Int) (s1 : Int × List Int) : Option (Fl (Int × List Int) (Fl (List Int) (List Int))) :=
 bif (ltI s1.1 (lenL r1)) then (
  need (InB s1.1 (lenL r1)) <|
  need (AppB (lenL s1.2) 1 2) <|
  some (.go ((addI .i64 s1.1 1), (appL s1.2 [(cvtI .u16 (nthI r1 s1.1))])))
 ) else (
  some (.out (.go s1.2))
 )

noncomputable def gal (x0 : Tf) (x1 : Int) : Option (List Int) :=
 ((gag x0.fa x1)).bind fun r1 =>
 ((loopF (gal.loop1 r1) (0, [])).bind fun f => flC f fun (v1 : List Int) =>
  ((gaD v1)).bind fun r2 =>
  some r2
 )
end Go.Proofs
end
