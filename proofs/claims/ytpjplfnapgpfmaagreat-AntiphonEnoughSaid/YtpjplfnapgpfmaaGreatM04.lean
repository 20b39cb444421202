/- What these functions compute, as plain functions. No condition. -/
import Derived.Test.YtpjplfnapgpfmaaGreatTs
import Derived.Test.YtpjplfnapgpfmaaGreatM05
import Derived.Test.YtpjplfnapgpfmaaGreatM13
import Derived.Test.YtpjplfnapgpfmaaGreatM02
import Derived.Test.YtpjplfnapgpfmaaGreatM03
section
namespace Go.Proofs
open Go.Ab
noncomputable def gh.loop1 (x0 : Tf) (r2 : List Int) (s1 : Int × List Tg) : Option (Fl (Int × List Tg) (Fl (List Tg) (Int × Bool × Tf))) :=
 bif (ltI s1.1 (lenL r2)) then (
  need (InB s1.1 (lenL r2)) <|
  optC (findM eqI (nthI r2 s1.1) x0.fh) (
   none
  ) fun z3 => (
    ((gD z3.fA)).bind fun r4 =>
    need (AppB (lenL s1.2) 1 16) <|
    some (.go ((addI .i64 s1.1 1), (appL s1.2 [(Tg.mk (nthI r2 s1.1) r4.1.fj)])))
  )
 ) else (
   some (.out (.go s1.2))
 )

noncomputable def gh (x0 : Tf) : Option (Int × Bool × Tf) :=
 ((gy x0 false)).bind fun r1 =>
 ((gy x0 true)).bind fun r2 =>
 bif (pickB (ltI 0 (lenL r1)) (pickB (ltI x0.ff x0.fd.fo) true (eqI (lenL r2) 0)) false) then (
  ((gai x0 r1)).bind fun r3 =>
  some (r3, true, x0)
 ) else (
   ((loopF (gh.loop1 x0 r2) (0, [])).bind fun f => flC f fun (v1 : List Tg) =>
     ((gf x0.fa v1)).bind fun r5 =>
     some (r5.1, r5.2.1, (Tf.mk x0.fd x0.fh r5.2.2 x0.fc x0.ff))
   )
 )

noncomputable def gu.loop1  (s1 : List Tb × Ts × Int × Int × (List (Int × Tj)) × Int × Int × Bool × (List (Int × Int)) × (List (Int × Int))) : Option (Fl (List Tb × Ts × Int × Int × (List (Int × Tj)) × Int × Int × Bool × (List (Int × Int)) × (List (Int × Int))) (Fl Unit (List Tb × Tf))) :=
 ((gh (Tf.mk s1.2.1 s1.2.2.2.2.1 (Tp.mk s1.2.2.2.2.2.1 s1.2.2.2.2.2.2.2.2.1 s1.2.2.2.2.2.2.2.2.2 s1.2.2.2.2.2.2.1 s1.2.2.2.2.2.2.2.1) s1.2.2.1 s1.2.2.2.1))).bind fun r1 =>
 bif (notB r1.2.1) then (
  some (.out (.out (s1.1, r1.2.2)))
 ) else (
   optC (findM eqI r1.1 r1.2.2.fh) (
    none
   ) fun z3 => (
     ((gD z3.fA)).bind fun r2 =>
     bif (ltI r1.2.2.fc r2.1.fj) then (
      some (.out (.out (s1.1, r1.2.2)))
     ) else (
       ((gaw z3.fA)).bind fun r3 =>
       ((
        bif z3.fu then (
         ((gam r1.2.2.fa r2.1.fj)).bind fun r4 =>
         some (.go (r4.fb, r4.fAt, r4.fg, r4.fm, r4.fp, 0, true))
        ) else (
          some (.go (r1.2.2.fa.fb, r1.2.2.fa.fAt, r1.2.2.fa.fg, r1.2.2.fa.fm, r1.2.2.fa.fp, (addI .i64 r1.2.2.ff 1), false))
        )
        : Option (Fl (Int × Int × Bool × (List (Int × Int)) × (List (Int × Int)) × Int × Bool) (Fl (List Tb × Ts × Int × Int × (List (Int × Tj)) × Int × Int × Bool × (List (Int × Int)) × (List (Int × Int))) (Fl Unit (List Tb × Tf))))).bind fun f => flC f fun (v2 : Int × Int × Bool × (List (Int × Int)) × (List (Int × Int)) × Int × Bool) =>
        need (AppB (lenL s1.1) 1 40) <|
        some (.go ((appL s1.1 [(Tb.mk r1.1 r2.1)]), r1.2.2.fd, (subI .i64 r1.2.2.fc r2.1.fj), v2.2.2.2.2.2.1, (setM eqI r1.1 (Tj.mk r3.2.2 z3.fu) r1.2.2.fh), v2.1, v2.2.1, v2.2.2.1, v2.2.2.2.1, v2.2.2.2.2.1))
       )
     )
   )
 )

noncomputable def gu (x0 : Tf) : Option (List Tb × Tf) :=
 ((loopF gu.loop1 ([], x0.fd, x0.fc, x0.ff, x0.fh, x0.fa.fb, x0.fa.fAt, x0.fa.fg, x0.fa.fm, x0.fa.fp)).bind fun f => flC f fun (_v1 : Unit) =>
   none
 )

noncomputable def gA.loop1 (x0 : Tf) (x1 : Int) (s1 : Int × List Tb × (List (Int × Tj))) : Option (Fl (Int × List Tb × (List (Int × Tj))) (Fl (List Tb × (List (Int × Tj))) (List Tb × Tf))) :=
 bif (ltI s1.1 (lenL (sortL (keysM x0.fh)))) then (
  need (InB s1.1 (lenL (sortL (keysM x0.fh)))) <|
  optC (findM eqI (nthI (sortL (keysM x0.fh)) s1.1) s1.2.2) (
   none
  ) fun z3 => (
    ((gn z3.fA x1 x0.fd.fq)).bind fun r1 =>
    ((gaj (nthI (sortL (keysM x0.fh)) s1.1) r1.1)).bind fun r2 =>
    need (AppB (lenL s1.2.1) (lenL r2) 40) <|
    some (.go ((addI .i64 s1.1 1), (appL s1.2.1 r2), (setM eqI (nthI (sortL (keysM x0.fh)) s1.1) (Tj.mk r1.2 z3.fu) s1.2.2)))
  )
 ) else (
   some (.out (.go (s1.2.1, s1.2.2)))
 )

noncomputable def gA (x0 : Tf) (x1 : Int) : Option (List Tb × Tf) :=
 need (KeysB (keysM x0.fh)) <|
 ((loopF (gA.loop1 x0 x1) (0, [], x0.fh)).bind fun f => flC f fun (v1 : List Tb × (List (Int × Tj))) =>
   some (v1.1, (Tf.mk x0.fd v1.2 x0.fa x0.fc x0.ff))
 )
end Go.Proofs
end
section
namespace Go.Proofs
open Go.Ab
noncomputable def gaU (x0 : Bool) (x1 : Int) : Option Int :=
 bif x0 then (
  some x1
 ) else (
   some 0
 )

noncomputable def gaZ (x0 : ByteArray) : Option (Int × Int) :=
 bif (eqS x0 ⟨#[]⟩) then (
  some (0, 1)
 ) else (
   need (InB (subI .i64 (lenS x0) 1) (lenS x0)) <|
   bif (eqI (cvtI .i64 (idxS x0 (subI .i64 (lenS x0) 1))) 0) then (
    some (0, 2)
   ) else (
     bif (ltI (lenS x0) (cvtI .i64 (idxS x0 (subI .i64 (lenS x0) 1)))) then (
      some (0, 1)
     ) else (
       some ((cvtI .i64 (idxS x0 (subI .i64 (lenS x0) 1))), 0)
     )
   )
 )

noncomputable def gM.loop2 (v1 : List Int × Tt) (s2 : Int × List Int) : Option (Fl (Int × List Int) (Fl (List Int) ByteArray)) :=
 bif (ltI s2.1 v1.2.fD) then (
  ((gaU (eqI s2.1 (subI .i64 v1.2.fD 1)) (cvtI .u8 v1.2.fD))).bind fun r10 =>
  need (AppB (lenL s2.2) 1 1) <|
  some (.go ((addI .i64 s2.1 1), (appL s2.2 [r10])))
 ) else (
   some (.out (.go s2.2))
 )

noncomputable def gM (x0 : Tt) : Option ByteArray :=
 ((gaU (ltI 0 x0.fD) 32)).bind fun r1 =>
 ((gaU x0.fad 16)).bind fun r2 =>
 ((gaU x0.fM 128)).bind fun r3 =>
 need (AppB 0 2 1) <|
 ((gj (appL [] [(bitsOp .or .u8 (bitsOp .or .u8 (bitsOp .or .u8 128 r1) r2) (cvtI .u8 (lenL x0.fP))), (bitsOp .or .u8 r3 x0.fH)]) [x0.fac])).bind fun r4 =>
 ((gl r4 [x0.fW, x0.fY])).bind fun r5 =>
 ((gl r5 x0.fP)).bind fun r6 =>
 ((
  bif x0.fad then (
   need (NonZ 4) <|
   ((gj r6 [x0.fG, (cvtI .u16 (quoI .i64 (lenS x0.fU) 4))])).bind fun r7 =>
   ((gp r7 [x0.fU])).bind fun r8 =>
   some (.go (r8, (Tt.mk x0.fM x0.fH x0.fac x0.fW x0.fY x0.fP true x0.fG x0.fU x0.fB x0.fD)))
  ) else (
    some (.go (r6, (Tt.mk x0.fM x0.fH x0.fac x0.fW x0.fY x0.fP false x0.fG x0.fU x0.fB x0.fD)))
  )
  : Option (Fl (List Int × Tt) ByteArray)).bind fun f => flC f fun (v1 : List Int × Tt) =>
  ((gp v1.1 [v1.2.fB])).bind fun r9 =>
  ((loopF (gM.loop2 v1) (0, r9)).bind fun f => flC f fun (v2 : List Int) =>
    need (TextB v2) <|
    some (strOfNums v2)
  )
 )

noncomputable def gaB.loop1 (r2 : Int × Tk) (s1 : Int × Tk × List Int) : Option (Fl (Int × Tk × List Int) (Fl (Tk × List Int) (Tt × Int))) :=
 bif (ltI s1.1 (bitsOp .and .u8 r2.1 15)) then (
  ((gO s1.2.1)).bind fun r8 =>
  need (AppB (lenL s1.2.2) 1 4) <|
  some (.go ((addI .u8 s1.1 1), r8.2, (appL s1.2.2 [r8.1])))
 ) else (
   some (.out (.go (s1.2.1, s1.2.2)))
 )

noncomputable def gaB (x0 : ByteArray) : Option (Tt × Int) :=
 bif (ltI 1500 (lenS x0)) then (
  some ((Tt.mk false 0 0 0 0 [] false 0 ⟨#[]⟩ ⟨#[]⟩ 0), 4)
 ) else (
   ((gaR x0)).bind fun r1 =>
   ((gad r1)).bind fun r2 =>
   ((gad r2.2)).bind fun r3 =>
   ((gaa r3.2)).bind fun r4 =>
   need (Under (eqI r4 0) true (NonN 6)) <|
   bif (pickB (eqI r4 0) (neI (shrI .u8 r2.1 6) 2) false) then (
    some ((Tt.mk false 0 0 0 0 [] false 0 ⟨#[]⟩ ⟨#[]⟩ 0), 2)
   ) else (
     ((gN r3.2)).bind fun r5 =>
     ((gO r5.2)).bind fun r6 =>
     ((gO r6.2)).bind fun r7 =>
     ((loopF (gaB.loop1 r2) (0, r7.2, [])).bind fun f => flC f fun (v1 : Tk × List Int) =>
       ((
        bif (ltI 0 (bitsOp .and .u8 r2.1 16)) then (
         ((gN v1.1)).bind fun r9 =>
         ((gN r9.2)).bind fun r10 =>
         ((gz r10.2 (mulI .i64 4 (cvtI .i64 r10.1)))).bind fun r11 =>
         some (.go (r11.2, r9.1, r11.1, true))
        ) else (
          some (.go (v1.1, 0, ⟨#[]⟩, false))
        )
        : Option (Fl (Tk × Int × ByteArray × Bool) (Tt × Int))).bind fun f => flC f fun (v2 : Tk × Int × ByteArray × Bool) =>
        ((gQ v2.1)).bind fun r12 =>
        ((
         ((gaa r12.2)).bind fun r13 =>
         bif (pickB (eqI r13 0) (ltI 0 (bitsOp .and .u8 r2.1 32)) false) then (
          ((gaZ r12.1)).bind fun r14 =>
          ((gJ r12.2 r14.2)).bind fun r15 =>
          need (CutB 0 (subI .i64 (lenS r12.1) r14.1) (lenS r12.1)) <|
          some (.go (r15, (cutS r12.1 0 (subI .i64 (lenS r12.1) r14.1)), r14.1))
         ) else (
           some (.go (r12.2, r12.1, 0))
         )
         : Option (Fl (Tk × ByteArray × Int) (Tt × Int))).bind fun f => flC f fun (v3 : Tk × ByteArray × Int) =>
         ((gaa v3.1)).bind fun r16 =>
         bif (neI r16 0) then (
          some ((Tt.mk false 0 0 0 0 [] false 0 ⟨#[]⟩ ⟨#[]⟩ 0), r16)
         ) else (
           some ((Tt.mk (ltI 127 r3.1) (bitsOp .and .u8 r3.1 127) r5.1 r6.1 r7.1 v1.2 v2.2.2.2 v2.2.1 v2.2.2.1 v3.2.1 v3.2.2), 0)
         )
        )
       )
     )
   )
 )
end Go.Proofs
end
section
namespace Go.Proofs
open Go.Ab
noncomputable def gaF : Option Tv :=
 some (Tv.mk false false 0 (-1) false (-1) (-1) false (-1))

noncomputable def gaS (x0 : Bool) (x1 : Int) : Option Int :=
 bif x0 then (
  some x1
 ) else (
   some 0
 )

noncomputable def gaL (x0 : Tv) : Option Bool :=
 some (pickB (pickB (pickB (leqI 0 x0.fF) true (leqI 0 x0.fJ)) true (leqI 0 x0.fK)) true (leqI 0 x0.fy))

noncomputable def gah (x0 : Tv) : Option ByteArray :=
 ((gaL x0)).bind fun r1 =>
 ((gaS r1 128)).bind fun r2 =>
 ((gaS x0.fT 32)).bind fun r3 =>
 ((gaS x0.fV 16)).bind fun r4 =>
 need (AppB 0 1 1) <|
 bif (notB r1) then (
  need (TextB (appL [] [(bitsOp .or .u8 (bitsOp .or .u8 (bitsOp .or .u8 r2 r3) r4) (cvtI .u8 (bitsOp .and .i64 x0.fR 7)))])) <|
  some (strOfNums (appL [] [(bitsOp .or .u8 (bitsOp .or .u8 (bitsOp .or .u8 r2 r3) r4) (cvtI .u8 (bitsOp .and .i64 x0.fR 7)))]))
 ) else (
   ((gaS (leqI 0 x0.fF) 128)).bind fun r5 =>
   ((gaS (leqI 0 x0.fJ) 64)).bind fun r6 =>
   ((gaS (leqI 0 x0.fK) 32)).bind fun r7 =>
   ((gaS (leqI 0 x0.fy) 16)).bind fun r8 =>
   need (AppB 1 1 1) <|
   ((
    bif (pickB (leqI 0 x0.fF) x0.faa false) then (
     ((gj (appL (appL [] [(bitsOp .or .u8 (bitsOp .or .u8 (bitsOp .or .u8 r2 r3) r4) (cvtI .u8 (bitsOp .and .i64 x0.fR 7)))]) [(bitsOp .or .u8 (bitsOp .or .u8 (bitsOp .or .u8 r5 r6) r7) r8)]) [(bitsOp .or .u16 (cvtI .u16 x0.fF) 32768)])).bind fun r9 =>
     some (.go r9)
    ) else (
      bif (leqI 0 x0.fF) then (
       need (AppB 2 1 1) <|
       some (.go (appL (appL (appL [] [(bitsOp .or .u8 (bitsOp .or .u8 (bitsOp .or .u8 r2 r3) r4) (cvtI .u8 (bitsOp .and .i64 x0.fR 7)))]) [(bitsOp .or .u8 (bitsOp .or .u8 (bitsOp .or .u8 r5 r6) r7) r8)]) [(cvtI .u8 (bitsOp .and .i64 x0.fF 127))]))
      ) else (
        some (.go (appL (appL [] [(bitsOp .or .u8 (bitsOp .or .u8 (bitsOp .or .u8 r2 r3) r4) (cvtI .u8 (bitsOp .and .i64 x0.fR 7)))]) [(bitsOp .or .u8 (bitsOp .or .u8 (bitsOp .or .u8 r5 r6) r7) r8)]))
      )
    )
    : Option (Fl (List Int) ByteArray)).bind fun f => flC f fun (v1 : List Int) =>
    ((
     bif (leqI 0 x0.fJ) then (
      need (AppB (lenL v1) 1 1) <|
      some (.go (appL v1 [(cvtI .u8 x0.fJ)]))
     ) else (
       some (.go v1)
     )
     : Option (Fl (List Int) ByteArray)).bind fun f => flC f fun (v2 : List Int) =>
     ((
      bif (pickB (leqI 0 x0.fK) true (leqI 0 x0.fy)) then (
       need (NonN 6) <|
       ((gaS x0.fab 32)).bind fun r10 =>
       need (AppB (lenL v2) 1 1) <|
       some (.go (appL v2 [(bitsOp .or .u8 (bitsOp .or .u8 (shlI .u8 (cvtI .u8 (maxI x0.fK 0)) 6) r10) (cvtI .u8 (maxI x0.fy 0)))]))
      ) else (
        some (.go v2)
      )
      : Option (Fl (List Int) ByteArray)).bind fun f => flC f fun (v3 : List Int) =>
      need (TextB v3) <|
      some (strOfNums v3)
     )
    )
   )
 )
end Go.Proofs
end
section
namespace Go.Proofs
open Go.Ab
noncomputable def gaI (_x0 : Tw) : Option (Int × Int) :=
 some (206, 1)

noncomputable def gaK (x0 : Tw) (x1 : List Int) : Option (List Int) :=
 ((gl x1 [x0.fZ, x0.fTo])).bind fun r1 =>
 some r1

noncomputable def gaV (x0 : List Int) (x1 : RtcpPacket) : Option (List Int) :=
 RtcpPacket.by x1
 (fun y1c0 => (
  ((gaK y1c0 x0)).bind fun r1 =>
  some r1
 ))

noncomputable def gaz.loop1 (x0 : List RtcpPacket) (s1 : Int × List Int) : Option (Fl (Int × List Int) (Fl (List Int) ByteArray)) :=
 bif (ltI s1.1 (lenL x0)) then (
  need (InB s1.1 (lenL x0)) <|
  RtcpPacket.by (nthI x0 s1.1)
  (fun y2c0 => (
   ((gaI y2c0)).bind fun r1 =>
   ((gaV [] (RtcpPacket.c0 y2c0))).bind fun r2 =>
   ((gC r2 4)).bind fun r3 =>
   need (AppB (lenL s1.2) 2 1) <|
   ((gS r3)).bind fun r4 =>
   need (NonZ 4) <|
   ((gj (appL s1.2 [(bitsOp .or .u8 128 (bitsOp .and .u8 r1.2 31)), r1.1]) [(cvtI .u16 (quoI .i64 r4 4))])).bind fun r5 =>
   need (TextB r3) <|
   ((gp r5 [(strOfNums r3)])).bind fun r6 =>
   some (.go ((addI .i64 s1.1 1), r6))
  ))
 ) else (
   some (.out (.go s1.2))
 )

noncomputable def gaz (x0 : List RtcpPacket) : Option ByteArray :=
 ((loopF (gaz.loop1 x0) (0, [])).bind fun f => flC f fun (v1 : List Int) =>
   need (TextB v1) <|
   some (strOfNums v1)
 )
end Go.Proofs
end
section
namespace Go.Proofs
open Go.Ab
noncomputable def gaW : Option Bool :=
 ((gM (Tt.mk false 96 1 0 0 [] false 0 ⟨#[]⟩ ⟨#[120]⟩ 0))).bind fun r1 =>
 ((gaB r1)).bind fun r2 =>
 (gaF).bind fun r3 =>
 need (Under (pickB (pickB (eqI r2.2 0) (eqS r2.1.fB ⟨#[120]⟩) false) (eqI r2.1.fH 96) false) true ((gah r3).isSome = true)) <|
 need (Under (pickB (pickB (pickB (eqI r2.2 0) (eqS r2.1.fB ⟨#[120]⟩) false) (eqI r2.1.fH 96) false) (eqI (lenS ((gah r3).getD dflt)) 1) false) true ((gaz [(RtcpPacket.c0 (Tw.mk 1 2))]).isSome = true)) <|
 need (Under (pickB (pickB (pickB (eqI r2.2 0) (eqS r2.1.fB ⟨#[120]⟩) false) (eqI r2.1.fH 96) false) (eqI (lenS ((gah r3).getD dflt)) 1) false) true (InB 1 (lenS ((gaz [(RtcpPacket.c0 (Tw.mk 1 2))]).getD dflt)))) <|
 some (pickB (pickB (pickB (pickB (eqI r2.2 0) (eqS r2.1.fB ⟨#[120]⟩) false) (eqI r2.1.fH 96) false) (eqI (lenS ((gah r3).getD dflt)) 1) false) (eqI (idxS ((gaz [(RtcpPacket.c0 (Tw.mk 1 2))]).getD dflt) 1) 206) false)
end Go.Proofs
end
