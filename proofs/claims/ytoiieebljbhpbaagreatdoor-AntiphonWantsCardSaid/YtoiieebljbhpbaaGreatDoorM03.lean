import Derived.Test.YtoiieebljbhpbaaGreatDoorTs
import Derived.Test.YtoiieebljbhpbaaGreatDoorM08
import Derived.Test.YtoiieebljbhpbaaGreatDoorM09
import Derived.Test.YtoiieebljbhpbaaGreatDoorM20
import Derived.Test.YtoiieebljbhpbaaGreatDoorM16
import Derived.Test.YtoiieebljbhpbaaGreatDoorTy
import Derived.Test.YtoiieebljbhpbaaGreatDoorM11
import Derived.Test.YtoiieebljbhpbaaGreatDoorHj
import Derived.Sort.Walk0
import Derived.Stop.Joined
section
namespace Go.Proofs
open Go.Ab
noncomputable def gaf : Option Th :=
 (gaJ).bind fun r1 =>
 some (Th.mk (Tp.mk r1.fe r1.fj) [] [] [])
noncomputable def gaQ (x0 : Th) (x1 : Tc) : Option (Te × Bool) :=
 need (AppB 0 (qat ((getM Tc.eq x1 (Te.mk false false []) x0.fb).fa)) 4) <|
 some ((getM Tc.eq x1 (Te.mk false false []) x0.fb), (hasM Tc.eq x1 x0.fb))
noncomputable def gba (x0 : Th) (x1 : Tb) : Option (Tf × Bool) :=
 some ((getM Tb.eq x1 (Tf.mk 0 false) x0.fg), (hasM Tb.eq x1 x0.fg))
noncomputable def gaY (x0 : Th) (x1 : Int) : Option (Tg × Bool) :=
 some ((getM eqI x1 (Tg.mk (Tc.mk 0 0) 0) x0.fh), (hasM eqI x1 x0.fh))
noncomputable def gj (x0 : Th) : Option (List Tb) :=
 need (Keys3B (keysM x0.fg)) <|
 some (sortLk (keysM x0.fg))
noncomputable def gh.loop1 (x1 : Tc) (r1 : List Tb) (s1 : Int × List Int) : Option (Fl (Int × List Int) (Fl (List Int) (List Int))) :=
 bif (ltI s1.1 (qat r1)) then (
  need (InB s1.1 (qat r1)) <|
  bif (qaf (eqI ((nthI r1 s1.1).fOf.fc) x1.fc) (eqI ((nthI r1 s1.1).fOf.ff) x1.ff) false) then (
   need (AppB (qat s1.2) 1 8) <|
   some (.go ((addI .i64 s1.1 1), (appL s1.2 [(nthI r1 s1.1).fu])))
  ) else (
    some (.go ((addI .i64 s1.1 1), s1.2))
  )
 ) else (
   some (.out (.go s1.2))
 )
noncomputable def gh (x0 : Th) (x1 : Tc) : Option (List Int) :=
 ((gj x0)).bind fun r1 =>
 ((loopF (gh.loop1 x1 r1) (0, [])).bind fun f => flC f fun (v1 : List Int) =>
   some v1
 )
end Go.Proofs
end
section
namespace Go.Proofs
open Go.Ab
noncomputable def gi.loop1 (x0 : Th) (x1 : Tc) (s1 : Int × (List (Int × Tg))) : Option (Fl (Int × (List (Int × Tg))) (Fl (List (Int × Tg)) Th)) :=
 bif (ltI s1.1 (qat ((getM Tc.eq x1 (Te.mk false false []) x0.fb).fa))) then (
  need (InB s1.1 (qat ((getM Tc.eq x1 (Te.mk false false []) x0.fb).fa))) <|
  some (.go ((addI .i64 s1.1 1), (delM eqI (nthI ((getM Tc.eq x1 (Te.mk false false []) x0.fb).fa) s1.1) s1.2)))
 ) else (
   some (.out (.go s1.2))
 )
noncomputable def gi (x0 : Th) (x1 : Tc) : Option Th :=
 ((loopF (gi.loop1 x0 x1) (0, x0.fh)).bind fun f => flC f fun (v1 : (List (Int × Tg))) =>
   some (Th.mk x0.fd (delM Tc.eq x1 x0.fb) (keepK (fun l => !(Tc.eq l.fOf x1)) x0.fg) v1)
 )
noncomputable def gq.loop1 (x1 : Int) (s1 : Int × Int × (List (Int × Ta)) × (List (Tc × Te)) × (List (Tb × Tf)) × (List (Int × Tg))) : Option (Fl (Int × Int × (List (Int × Ta)) × (List (Tc × Te)) × (List (Tb × Tf)) × (List (Int × Tg))) (Fl (Int × (List (Int × Ta)) × (List (Tc × Te)) × (List (Tb × Tf)) × (List (Int × Tg))) (Int × Th))) :=
 bif (ltI s1.1 4) then (
  ((gi (Th.mk (Tp.mk s1.2.2.1 s1.2.1) s1.2.2.2.1 s1.2.2.2.2.1 s1.2.2.2.2.2) (Tc.mk x1 s1.1))).bind fun r2 =>
  some (.go ((addI .i64 s1.1 1), r2.fd.fj, r2.fd.fe, r2.fb, r2.fg, r2.fh))
 ) else (
   some (.out (.go (s1.2.1, s1.2.2.1, s1.2.2.2.1, s1.2.2.2.2.1, s1.2.2.2.2.2)))
 )
noncomputable def gq (x0 : Th) (x1 : Int) : Option (Int × Th) :=
 ((gaa x0.fd x1)).bind fun r1 =>
 bif (neI r1.1 0) then (
  some (r1.1, (Th.mk (Tp.mk r1.2.fe r1.2.fj) x0.fb x0.fg x0.fh))
 ) else (
   ((loopF (gq.loop1 x1) (0, r1.2.fj, r1.2.fe, x0.fb, x0.fg, x0.fh)).bind fun f => flC f fun (v1 : Int × (List (Int × Ta)) × (List (Tc × Te)) × (List (Tb × Tf)) × (List (Int × Tg))) =>
     some (0, (Th.mk (Tp.mk v1.2.1 v1.1) v1.2.2.1 (keepK (fun l => !(eqI l.fu x1)) v1.2.2.2.1) v1.2.2.2.2))
   )
 )
noncomputable def ge.loop1 (x0 : Th) (x1 : Td) (s1 : Int) : Option (Fl Int (Fl Unit (Int × Th))) :=
 bif (ltI s1 (qat x1.fa)) then (
  need (InB s1 (qat x1.fa)) <|
  bif (hasM eqI (nthI x1.fa s1) x0.fh) then (
   some (.out (.out (16, x0)))
  ) else (
    some (.go (addI .i64 s1 1))
  )
 ) else (
   some (.out (.go ()))
 )
noncomputable def ge.loop2 (x1 : Td) (s2 : Int × (List (Int × Tg))) : Option (Fl (Int × (List (Int × Tg))) (Fl (List (Int × Tg)) (Int × Th))) :=
 bif (ltI s2.1 (qat x1.fa)) then (
  need (InB s2.1 (qat x1.fa)) <|
  some (.go ((addI .i64 s2.1 1), (setM eqI (nthI x1.fa s2.1) (Tg.mk (Tc.mk x1.fc x1.ff) s2.1) s2.2)))
 ) else (
   some (.out (.go s2.2))
 )
noncomputable def ge (x0 : Th) (x1 : Td) : Option (Int × Th) :=
 bif (hasM Tc.eq (Tc.mk x1.fc x1.ff) x0.fb) then (
  some (10, x0)
 ) else (
   ((loopF (ge.loop1 x0 x1) 0).bind fun f => flC f fun (_v1 : Unit) =>
     need (AppB 0 (qat x1.fa) 4) <|
     ((loopF (ge.loop2 x1) (0, x0.fh)).bind fun f => flC f fun (v2 : (List (Int × Tg))) =>
       some (0, (Th.mk x0.fd (setM Tc.eq (Tc.mk x1.fc x1.ff) (Te.mk x1.fq false x1.fa) x0.fb) x0.fg v2))
     )
   )
 )
noncomputable def gC (x0 : Th) (x1 : Td) : Option (Int × Th) :=
 bif (eqI x1.fOf x1.fc) then (
  some (15, x0)
 ) else (
   ((gD x0.fd x1.fc x1.fOf)).bind fun r1 =>
   bif (notB r1) then (
    some (7, x0)
   ) else (
     bif (notB (hasM Tc.eq (Tc.mk x1.fOf x1.ff) x0.fb)) then (
      some (9, x0)
     ) else (
       need (Under (notB (hasM Tb.eq (Tb.mk x1.fc (Tc.mk x1.fOf x1.ff)) x0.fg)) true ((gJ x0 x1.fc).isSome = true)) <|
       bif (qaf (notB (hasM Tb.eq (Tb.mk x1.fc (Tc.mk x1.fOf x1.ff)) x0.fg)) (leqI 16 ((gJ x0 x1.fc).getD dflt)) false) then (
        some (11, x0)
       ) else (
         some (0, (Th.mk x0.fd x0.fb (setM Tb.eq (Tb.mk x1.fc (Tc.mk x1.fOf x1.ff)) (Tf.mk x1.fo ((getM Tb.eq (Tb.mk x1.fc (Tc.mk x1.fOf x1.ff)) (Tf.mk 0 false) x0.fg).fw)) x0.fg) x0.fh))
       )
     )
   )
 )
noncomputable def gH (x0 : Th) (x1 : Td) : Option (Int × Th) :=
 ((
  bif (notB (hasM Tb.eq (Tb.mk x1.fc (Tc.mk x1.fOf x1.ff)) x0.fg)) then (
   some (.out (12, x0))
  ) else (
    bif (eqI x1.fk 6) then (
     some (.go ((delM Tb.eq (Tb.mk x1.fc (Tc.mk x1.fOf x1.ff)) x0.fg), (getM Tb.eq (Tb.mk x1.fc (Tc.mk x1.fOf x1.ff)) (Tf.mk 0 false) x0.fg)))
    ) else (
      some (.go ((setM Tb.eq (Tb.mk x1.fc (Tc.mk x1.fOf x1.ff)) (Tf.mk ((getM Tb.eq (Tb.mk x1.fc (Tc.mk x1.fOf x1.ff)) (Tf.mk 0 false) x0.fg).fo) x1.fOn) x0.fg), (Tf.mk ((getM Tb.eq (Tb.mk x1.fc (Tc.mk x1.fOf x1.ff)) (Tf.mk 0 false) x0.fg).fo) x1.fOn)))
    )
  )
  : Option (Fl ((List (Tb × Tf)) × Tf) (Int × Th))).bind fun f => flC f fun (v1 : (List (Tb × Tf)) × Tf) =>
  some (0, (Th.mk x0.fd x0.fb v1.1 x0.fh))
 )
noncomputable def gA (x0 : Th) (x1 : Td) : Option (Int × Th) :=
 ((
  bif (notB (hasM Tc.eq (Tc.mk x1.fc x1.ff) x0.fb)) then (
   some (.out (9, x0))
  ) else (
    bif (eqI x1.fk 4) then (
     ((gi x0 (Tc.mk x1.fc x1.ff))).bind fun r1 =>
     some (.go (r1.fd.fj, r1.fd.fe, r1.fb, r1.fg, r1.fh, (getM Tc.eq (Tc.mk x1.fc x1.ff) (Te.mk false false []) x0.fb)))
    ) else (
      some (.go (x0.fd.fj, x0.fd.fe, (setM Tc.eq (Tc.mk x1.fc x1.ff) (Te.mk ((getM Tc.eq (Tc.mk x1.fc x1.ff) (Te.mk false false []) x0.fb).fq) x1.fOn ((getM Tc.eq (Tc.mk x1.fc x1.ff) (Te.mk false false []) x0.fb).fa)) x0.fb), x0.fg, x0.fh, (Te.mk ((getM Tc.eq (Tc.mk x1.fc x1.ff) (Te.mk false false []) x0.fb).fq) x1.fOn ((getM Tc.eq (Tc.mk x1.fc x1.ff) (Te.mk false false []) x0.fb).fa))))
    )
  )
  : Option (Fl (Int × (List (Int × Ta)) × (List (Tc × Te)) × (List (Tb × Tf)) × (List (Int × Tg)) × Te) (Int × Th))).bind fun f => flC f fun (v1 : Int × (List (Int × Ta)) × (List (Tc × Te)) × (List (Tb × Tf)) × (List (Int × Tg)) × Te) =>
  some (0, (Th.mk (Tp.mk v1.2.1 v1.1) v1.2.2.1 v1.2.2.2.1 v1.2.2.2.2.1))
 )
noncomputable def gl (x0 : Th) (x1 : Td) : Option (Int × Int × Th) :=
 ((gO x1)).bind fun r1 =>
 bif (neI r1 0) then (
  some (0, r1, x0)
 ) else (
   bif (eqI x1.fk 1) then (
    ((gP x0.fd x1.fm x1.fp)).bind fun r2 =>
    some (r2.1, r2.2.1, (Th.mk (Tp.mk r2.2.2.fe r2.2.2.fj) x0.fb x0.fg x0.fh))
   ) else (
     ((gU x0.fd x1.fc)).bind fun r3 =>
     bif (notB r3.2) then (
      some (0, 8, x0)
     ) else (
       ((
        bif (eqI x1.fk 2) then (
         ((gq x0 x1.fc)).bind fun r4 =>
         some (.out (0, r4.1, r4.2))
        ) else (
          bif (eqI x1.fk 3) then (
           ((ge x0 x1)).bind fun r5 =>
           some (.out (0, r5.1, r5.2))
          ) else (
            bif (eqI x1.fk 5) then (
             ((gC x0 x1)).bind fun r6 =>
             some (.out (0, r6.1, r6.2))
            ) else (
              ((
               bif (eqI x1.fk 6) then (
                some (.go true)
               ) else (
                 some (.go (eqI x1.fk 8))
               )
               : Option (Fl Bool (Fl Unit (Int × Int × Th)))).bind fun f => flC f fun (v2 : Bool) =>
               bif v2 then (
                ((gH x0 x1)).bind fun r7 =>
                some (.out (0, r7.1, r7.2))
               ) else (
                 some (.go ())
               )
              )
            )
          )
        )
        : Option (Fl Unit (Int × Int × Th))).bind fun f => flC f fun (_v1 : Unit) =>
        ((gA x0 x1)).bind fun r8 =>
        some (0, r8.1, r8.2)
       )
     )
   )
 )
end Go.Proofs
end
section
namespace Go.Proofs
open Go.Ab
noncomputable def gap (x0 : Td) : Option Td :=
 ((gax x0.fm 70)).bind fun r1 =>
 ((gax x0.fp 70)).bind fun r2 =>
 ((
  bif (ltI 5 (qat x0.fa)) then (
   need (CutB 0 5 (qat x0.fa)) <|
   some (.go (Td.mk x0.fk r1 r2 x0.fc x0.fOf x0.ff x0.fo x0.fOn x0.fq (cutL x0.fa 0 5)))
  ) else (
    some (.go (Td.mk x0.fk r1 r2 x0.fc x0.fOf x0.ff x0.fo x0.fOn x0.fq x0.fa))
  )
  : Option (Fl Td Td)).bind fun f => flC f fun (v1 : Td) =>
  some v1
 )
noncomputable def gLaw07Told (x0 : Td) : Option Td :=
 some x0
end Go.Proofs
end
section
namespace Go.Proofs
open Go.Ab
@[simp] def gJ.m (x0 : Th) (_x1 : Int) : List qau := [.blk [.ptr 1 0, .mp 3, .mp 4, .mp 5], .blk [.mp 2, .lit (.int .i64 x0.fd.fj)], .mapo (qas (kI .i64) (vA Ta.enc) x0.fd.fe), .mapo (qas (vA Tc.enc) (vA Te.enc) x0.fb), .mapo (qas (vA Tb.enc) (vA Tf.enc) x0.fg), .mapo (qas (kI .u32) (vA Tg.enc) x0.fh)]
@[simp] def gJ.out (_x0 : Th) (_x1 : Int) (r : Int) : Out := { av := .lit (.int .i64 r), M := none }
set_option maxHeartbeats 4000000 in
set_option maxRecDepth 100000 in
theorem gJ.can (x0 : Th) (x1 : Int) (r : Int) (hr : gJ x0 x1 = some r) : qao Tryz.prog 89 [.ptr 0 0, .lit (.int .i64 x1)] (gJ.m x0 x1) (gJ.out x0 x1 r) := by
 unfold gJ at hr;obtain ⟨r1, h1, hr⟩ := Lb (show (gaD x0 x1).bind (fun r1 => some r1) = some r from hr);obtain rfl := La hr;exact gaD.can x0 x1 _ h1
@[simp] noncomputable def gJ.S : Sp
  | [.ptr i0 0, .lit (.int .i64 x1)], M => (rdB M i0).bind fun c0 => (rdP c0 0).bind fun i1 => (rdB M i1).bind fun c1 => (rdM c1 0).bind fun i2 => (rdE M i2).bind fun c2 => (rdM c0 1).bind fun i3 => (rdE M i3).bind fun c3 => (rdM c0 2).bind fun i4 => (rdE M i4).bind fun c4 => (rdM c0 3).bind fun i5 => (rdE M i5).bind fun c5 => (fun (y0 : Th) => some { av := .lit (.int .i64 ((gJ y0 x1).getD dflt)), M := none, obl := c0 = Th.enc y0 i1 i3 i4 i5 ∧ c1 = Tp.enc (y0.fd) i2 ∧ c2 = qas (kI .i64) (vA Ta.enc) (y0.fd.fe) ∧ c3 = qas (vA Tc.enc) (vA Te.enc) (y0.fb) ∧ c4 = qas (vA Tb.enc) (vA Tf.enc) (y0.fg) ∧ c5 = qas (kI .u32) (vA Tg.enc) (y0.fh) ∧ (gJ y0 x1).isSome = true ∧ i0 ≠ i1 ∧ i0 ≠ i2 ∧ i0 ≠ i3 ∧ i0 ≠ i4 ∧ i0 ≠ i5 ∧ i1 ≠ i2 ∧ i1 ≠ i3 ∧ i1 ≠ i4 ∧ i1 ≠ i5 ∧ i2 ≠ i3 ∧ i2 ≠ i4 ∧ i2 ≠ i5 ∧ i3 ≠ i4 ∧ i3 ≠ i5 ∧ i4 ≠ i5 }) (Th.dec c0 (Tp.dec c1 (decM dkI (dvA Ta.dec) c2)) (decM (dvA Tc.dec) (dvA Te.dec) c3) (decM (dvA Tb.dec) (dvA Tf.dec) c4) (decM dkI (dvA Tg.dec) c5))
  | _, _ => none
set_option maxHeartbeats 1000000 in
theorem gJ.ok : qap Tryz.prog 89 gJ.S := by
 intro l M out h;unfold gJ.S at h;split at h
 ·rename_i i0 x1;obtain ⟨c0, hM0, h⟩ := bB h;obtain ⟨i1, he1, h⟩ := bP h;obtain ⟨c1, hM1, h⟩ := bB h;obtain ⟨i2, he2, h⟩ := bM h;obtain ⟨c2, hM2, h⟩ := bE h;obtain ⟨i3, he3, h⟩ := bM h;obtain ⟨c3, hM3, h⟩ := bE h;obtain ⟨i4, he4, h⟩ := bM h;obtain ⟨c4, hM4, h⟩ := bE h;obtain ⟨i5, he5, h⟩ := bM h;obtain ⟨c5, hM5, h⟩ := bE h
  try dsimp only at h
  cases h;refine qad fun ho => ?_;obtain ⟨oc0, oc1, oc2, oc3, oc4, oc5, hs, hne0, hne1, hne2, hne3, hne4, hne5, hne6, hne7, hne8, hne9, hne10, hne11, hne12, hne13, hne14⟩ := ho;generalize (Th.dec c0 (Tp.dec c1 (decM dkI (dvA Ta.dec) c2)) (decM (dvA Tc.dec) (dvA Te.dec) c3) (decM (dvA Tb.dec) (dvA Tf.dec) c4) (decM dkI (dvA Tg.dec) c5)) = y0 at *
  subst oc0;subst oc1;subst oc2;subst oc3;subst oc4;subst oc5;obtain ⟨r, hr⟩ := so1 hs;simp only [hr, gd1];have q := Lf (M := M) [i0, i1, i2, i3, i4, i5] (gJ.can y0 x1 r hr) (by simp [hne0, hne1, hne2, hne3, hne4, hne5, hne6, hne7, hne8, hne9, hne10, hne11, hne12, hne13, hne14]) rfl (ix (by simp [hM0, into]) (ix (by simp [hM1, into]) (ix (by simp [hM2]) (ix (by simp [hM3]) (ix (by simp [hM4]) (ix (by simp [hM5]) ixn))))));exact qac q trivial (by simp [into]) (by simp [qaa, into]) (by simp only [qaa, gJ.out, Option.getD_some, Option.getD_none]; simp [into, hM0, hM1, hM2, hM3, hM4, hM5, set_same])
 ·cases h
end Go.Proofs
end
section
namespace Go.Proofs
open Go.Ab Go.Lib
end Go.Proofs
end
section
namespace Go.Ab
open Go.ChangeShapes Go.WideShapes Go.ChangeAt Go.RowKit
variable {H : Type} {enc : TypeId × Value → H} {P : Program}
end Go.Ab
end
