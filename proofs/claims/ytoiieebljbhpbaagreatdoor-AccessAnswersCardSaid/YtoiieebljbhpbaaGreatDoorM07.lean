/- What these functions compute, as plain functions. No condition. -/
import Derived.Test.YtoiieebljbhpbaaGreatDoorTs
import Derived.Test.YtoiieebljbhpbaaGreatDoorM16
import Derived.Test.YtoiieebljbhpbaaGreatDoorM06
import Derived.Test.YtoiieebljbhpbaaGreatDoorM10
import Derived.Test.YtoiieebljbhpbaaGreatDoorM05
import Derived.Test.YtoiieebljbhpbaaGreatDoorTy
section
namespace Go.Proofs
open Go.Ab
noncomputable def gS (x0 : Ta) (x1 : ByteArray) : Option Bool :=
 ((gW x0.fp x1)).bind fun r1 =>
 some r1

noncomputable def ga.loop1 (x0 : List Ta) (x1c0 : ByteArray) (s1 : Int) : Option (Fl Int (Fl Unit Int)) :=
 bif (ltI s1 (lenL x0)) then (
  need (InB s1 (lenL x0)) <|
  ((gS (Ta.mk ((nthI x0 s1).fN) ((nthI x0 s1).fp) ((nthI x0 s1).fm)) x1c0)).bind fun r1 =>
  bif r1 then (
   some (.out (.out s1))
  ) else (
    some (.go (addI .i64 s1 1))
  )
 ) else (
   some (.out (.go ()))
 )

noncomputable def ga (x0 : List Ta) (x1c0 : ByteArray) : Option Int :=
 ((loopF (ga.loop1 x0 x1c0) 0).bind fun f => flC f fun (_v1 : Unit) =>
   some (-1)
 )

noncomputable def gc (x0 : List Ta) (x1c0 : ByteArray) : Option Bool :=
 ((ga x0 x1c0)).bind fun r1 =>
 some (leqI 0 r1)

noncomputable def gL (x0 : Tj) (x1 : ByteArray) (x2 : ByteArray) : Option (Int × Int × Tj) :=
 ((gC x1)).bind fun r1 =>
 need (Under (neI r1 0) false ((gC x2).isSome = true)) <|
 bif (pickB (neI r1 0) true (neI ((gC x2).getD dflt) 0)) then (
  some (0, 6, x0)
 ) else (
   ((gF x0 x1)).bind fun r2 =>
   ((
    ((gc r2 x2)).bind fun r3 =>
    bif r3 then (
     some (.out (0, 10, x0))
    ) else (
      ((
       bif (leqI 16 (lenL r2)) then (
        some (.go true)
       ) else (
         need (Under (eqI (lenL r2) 0) true ((gN x0).isSome = true)) <|
         bif (pickB (eqI (lenL r2) 0) (leqI 8 (lenL ((gN x0).getD dflt))) false) then (
          some (.go true)
         ) else (
           some (.go (ltI 65535 x0.fj))
         )
       )
       : Option (Fl Bool (Fl Unit (Int × Int × Tj)))).bind fun f => flC f fun (v2 : Bool) =>
       bif v2 then (
        some (.out (0, 11, x0))
       ) else (
         some (.go ())
       )
      )
    )
    : Option (Fl Unit (Int × Int × Tj))).bind fun f => flC f fun (_v1 : Unit) =>
    some (x0.fj, 0, (Tj.mk (setM eqI x0.fj (Ta.mk x0.fj x2 x1) x0.fe) (addI .i64 x0.fj 1)))
   )
 )
end Go.Proofs
end
section
namespace Go.Proofs
open Go.Ab
noncomputable def gm.loop1 (x0 : Th) (x1 : Tc) (s1 : Int × (List (Int × Tf))) : Option (Fl (Int × (List (Int × Tf))) (Fl (List (Int × Tf)) Th)) :=
 bif (ltI s1.1 (lenL ((getM Tc.eq x1 (Te.mk false false []) x0.fc).fa))) then (
  need (InB s1.1 (lenL ((getM Tc.eq x1 (Te.mk false false []) x0.fc).fa))) <|
  some (.go ((addI .i64 s1.1 1), (delM eqI (nthI ((getM Tc.eq x1 (Te.mk false false []) x0.fc).fa) s1.1) s1.2)))
 ) else (
   some (.out (.go s1.2))
 )

noncomputable def gm (x0 : Th) (x1 : Tc) : Option Th :=
 ((loopF (gm.loop1 x0 x1) (0, x0.fg)).bind fun f => flC f fun (v1 : (List (Int × Tf))) =>
   some (Th.mk x0.fb (delM Tc.eq x1 x0.fc) (keepK (fun l => !(Tc.eq l.fOf x1)) x0.ff) v1)
 )

noncomputable def gp.loop1 (x1 : Int) (s1 : Int × Int × (List (Int × Ta)) × (List (Tc × Te)) × (List (Tb × Tg)) × (List (Int × Tf))) : Option (Fl (Int × Int × (List (Int × Ta)) × (List (Tc × Te)) × (List (Tb × Tg)) × (List (Int × Tf))) (Fl (Int × (List (Int × Ta)) × (List (Tc × Te)) × (List (Tb × Tg)) × (List (Int × Tf))) (Int × Th))) :=
 bif (ltI s1.1 4) then (
  ((gm (Th.mk (Tj.mk s1.2.2.1 s1.2.1) s1.2.2.2.1 s1.2.2.2.2.1 s1.2.2.2.2.2) (Tc.mk x1 s1.1))).bind fun r2 =>
  some (.go ((addI .i64 s1.1 1), r2.fb.fj, r2.fb.fe, r2.fc, r2.ff, r2.fg))
 ) else (
   some (.out (.go (s1.2.1, s1.2.2.1, s1.2.2.2.1, s1.2.2.2.2.1, s1.2.2.2.2.2)))
 )

noncomputable def gp (x0 : Th) (x1 : Int) : Option (Int × Th) :=
 ((gR x0.fb x1)).bind fun r1 =>
 bif (neI r1.1 0) then (
  some (r1.1, (Th.mk (Tj.mk r1.2.fe r1.2.fj) x0.fc x0.ff x0.fg))
 ) else (
   ((loopF (gp.loop1 x1) (0, r1.2.fj, r1.2.fe, x0.fc, x0.ff, x0.fg)).bind fun f => flC f fun (v1 : Int × (List (Int × Ta)) × (List (Tc × Te)) × (List (Tb × Tg)) × (List (Int × Tf))) =>
     some (0, (Th.mk (Tj.mk v1.2.1 v1.1) v1.2.2.1 (keepK (fun l => !(eqI l.fu x1)) v1.2.2.2.1) v1.2.2.2.2))
   )
 )

noncomputable def gh.loop1 (x0 : Th) (x1 : Td) (s1 : Int) : Option (Fl Int (Fl Unit (Int × Th))) :=
 bif (ltI s1 (lenL x1.fa)) then (
  need (InB s1 (lenL x1.fa)) <|
  bif (hasM eqI (nthI x1.fa s1) x0.fg) then (
   some (.out (.out (16, x0)))
  ) else (
    some (.go (addI .i64 s1 1))
  )
 ) else (
   some (.out (.go ()))
 )

noncomputable def gh.loop2 (x1 : Td) (s2 : Int × (List (Int × Tf))) : Option (Fl (Int × (List (Int × Tf))) (Fl (List (Int × Tf)) (Int × Th))) :=
 bif (ltI s2.1 (lenL x1.fa)) then (
  need (InB s2.1 (lenL x1.fa)) <|
  some (.go ((addI .i64 s2.1 1), (setM eqI (nthI x1.fa s2.1) (Tf.mk (Tc.mk x1.fd x1.fh) s2.1) s2.2)))
 ) else (
   some (.out (.go s2.2))
 )

noncomputable def gh (x0 : Th) (x1 : Td) : Option (Int × Th) :=
 bif (hasM Tc.eq (Tc.mk x1.fd x1.fh) x0.fc) then (
  some (10, x0)
 ) else (
   ((loopF (gh.loop1 x0 x1) 0).bind fun f => flC f fun (_v1 : Unit) =>
     need (AppB 0 (lenL x1.fa) 4) <|
     ((loopF (gh.loop2 x1) (0, x0.fg)).bind fun f => flC f fun (v2 : (List (Int × Tf))) =>
       some (0, (Th.mk x0.fb (setM Tc.eq (Tc.mk x1.fd x1.fh) (Te.mk x1.fq false x1.fa) x0.fc) x0.ff v2))
     )
   )
 )

noncomputable def gB (x0 : Th) (x1 : Td) : Option (Int × Th) :=
 bif (eqI x1.fOf x1.fd) then (
  some (15, x0)
 ) else (
   ((gw x0.fb x1.fd x1.fOf)).bind fun r1 =>
   bif (notB r1) then (
    some (7, x0)
   ) else (
     bif (notB (hasM Tc.eq (Tc.mk x1.fOf x1.fh) x0.fc)) then (
      some (9, x0)
     ) else (
       need (Under (notB (hasM Tb.eq (Tb.mk x1.fd (Tc.mk x1.fOf x1.fh)) x0.ff)) true ((gH x0 x1.fd).isSome = true)) <|
       bif (pickB (notB (hasM Tb.eq (Tb.mk x1.fd (Tc.mk x1.fOf x1.fh)) x0.ff)) (leqI 16 ((gH x0 x1.fd).getD dflt)) false) then (
        some (11, x0)
       ) else (
         some (0, (Th.mk x0.fb x0.fc (setM Tb.eq (Tb.mk x1.fd (Tc.mk x1.fOf x1.fh)) (Tg.mk x1.fo ((getM Tb.eq (Tb.mk x1.fd (Tc.mk x1.fOf x1.fh)) (Tg.mk 0 false) x0.ff).fw)) x0.ff) x0.fg))
       )
     )
   )
 )

noncomputable def gG (x0 : Th) (x1 : Td) : Option (Int × Th) :=
 ((
  bif (notB (hasM Tb.eq (Tb.mk x1.fd (Tc.mk x1.fOf x1.fh)) x0.ff)) then (
   some (.out (12, x0))
  ) else (
    bif (eqI x1.fk 6) then (
     some (.go ((delM Tb.eq (Tb.mk x1.fd (Tc.mk x1.fOf x1.fh)) x0.ff), (getM Tb.eq (Tb.mk x1.fd (Tc.mk x1.fOf x1.fh)) (Tg.mk 0 false) x0.ff)))
    ) else (
      some (.go ((setM Tb.eq (Tb.mk x1.fd (Tc.mk x1.fOf x1.fh)) (Tg.mk ((getM Tb.eq (Tb.mk x1.fd (Tc.mk x1.fOf x1.fh)) (Tg.mk 0 false) x0.ff).fo) x1.fOn) x0.ff), (Tg.mk ((getM Tb.eq (Tb.mk x1.fd (Tc.mk x1.fOf x1.fh)) (Tg.mk 0 false) x0.ff).fo) x1.fOn)))
    )
  )
  : Option (Fl ((List (Tb × Tg)) × Tg) (Int × Th))).bind fun f => flC f fun (v1 : (List (Tb × Tg)) × Tg) =>
  some (0, (Th.mk x0.fb x0.fc v1.1 x0.fg))
 )

noncomputable def gA (x0 : Th) (x1 : Td) : Option (Int × Th) :=
 ((
  bif (notB (hasM Tc.eq (Tc.mk x1.fd x1.fh) x0.fc)) then (
   some (.out (9, x0))
  ) else (
    bif (eqI x1.fk 4) then (
     ((gm x0 (Tc.mk x1.fd x1.fh))).bind fun r1 =>
     some (.go (r1.fb.fj, r1.fb.fe, r1.fc, r1.ff, r1.fg, (getM Tc.eq (Tc.mk x1.fd x1.fh) (Te.mk false false []) x0.fc)))
    ) else (
      some (.go (x0.fb.fj, x0.fb.fe, (setM Tc.eq (Tc.mk x1.fd x1.fh) (Te.mk ((getM Tc.eq (Tc.mk x1.fd x1.fh) (Te.mk false false []) x0.fc).fq) x1.fOn ((getM Tc.eq (Tc.mk x1.fd x1.fh) (Te.mk false false []) x0.fc).fa)) x0.fc), x0.ff, x0.fg, (Te.mk ((getM Tc.eq (Tc.mk x1.fd x1.fh) (Te.mk false false []) x0.fc).fq) x1.fOn ((getM Tc.eq (Tc.mk x1.fd x1.fh) (Te.mk false false []) x0.fc).fa))))
    )
  )
  : Option (Fl (Int × (List (Int × Ta)) × (List (Tc × Te)) × (List (Tb × Tg)) × (List (Int × Tf)) × Te) (Int × Th))).bind fun f => flC f fun (v1 : Int × (List (Int × Ta)) × (List (Tc × Te)) × (List (Tb × Tg)) × (List (Int × Tf)) × Te) =>
  some (0, (Th.mk (Tj.mk v1.2.1 v1.1) v1.2.2.1 v1.2.2.2.1 v1.2.2.2.2.1))
 )

noncomputable def gf (x0 : Th) (x1 : Td) : Option (Int × Int × Th) :=
 ((gK x1)).bind fun r1 =>
 bif (neI r1 0) then (
  some (0, r1, x0)
 ) else (
   bif (eqI x1.fk 1) then (
    ((gL x0.fb x1.fm x1.fp)).bind fun r2 =>
    some (r2.1, r2.2.1, (Th.mk (Tj.mk r2.2.2.fe r2.2.2.fj) x0.fc x0.ff x0.fg))
   ) else (
     ((gP x0.fb x1.fd)).bind fun r3 =>
     bif (notB r3.2) then (
      some (0, 8, x0)
     ) else (
       ((
        bif (eqI x1.fk 2) then (
         ((gp x0 x1.fd)).bind fun r4 =>
         some (.out (0, r4.1, r4.2))
        ) else (
          bif (eqI x1.fk 3) then (
           ((gh x0 x1)).bind fun r5 =>
           some (.out (0, r5.1, r5.2))
          ) else (
            bif (eqI x1.fk 5) then (
             ((gB x0 x1)).bind fun r6 =>
             some (.out (0, r6.1, r6.2))
            ) else (
              ((
               bif (eqI x1.fk 6) then (
                some (.go true)
               ) else (
                 some (.go (eqI x1.fk 8))
               )
               : Option (Fl Bool (Fl Unit (Int × Int × Th)))).bind fun f => flC f fun (v2 : Bool) =>
               bif v2 then (
                ((gG x0 x1)).bind fun r7 =>
                some (.out (0, r7.1, r7.2))
               ) else (
                 some (.go ())
               )
              )
            )
          )
        )
        : Option (Fl Unit (Int × Int × Th))).bind fun f => flC f fun (_v1 : Unit) =>
        ((gA x0 x1)).bind fun r8 =>
        some (0, r8.1, r8.2)
       )
     )
   )
 )
end Go.Proofs
end
section
set_option maxRecDepth 100000
namespace Go.Proofs
open Go.Ab
theorem bif_swap (p q : Bool) (n : Int) : (bif p then addI .i64 (bif q then addI .i64 n 1 else n) 1 else (bif q then addI .i64 n 1 else n)) = (bif q then addI .i64 (bif p then addI .i64 n 1 else n) 1 else (bif p then addI .i64 n 1 else n)) := by
 cases p <;> cases q <;> rfl
theorem gal.can (x0 : Th) (x1 : Int) (r : Int) (hr : gal x0 x1 = some r) : CallOk Tryz.prog 89 [.ptr 0 0, .lit (.int .i64 x1)] [.blk [.ptr 1 0, .mp 3, .mp 4, .mp 5], .blk [.mp 2, .lit (.int .i64 x0.fb.fj)], .mapo (encM (kI .i64) (vA Ta.enc) x0.fb.fe), .mapo (encM (vA Tc.enc) (vA Te.enc) x0.fc), .mapo (encM (vA Tb.enc) (vA Tg.enc) x0.ff), .mapo (encM (kI .u32) (vA Tf.enc) x0.fg)] { av := .lit (.int .i64 r), M := none } := by
 unfold gal at hr
 obtain rfl := La hr
 have hΓ := gamL_nil (P := Tryz.prog)
 refine cw Tryz.func89 rfl (by kernel_rfl) rfl rfl (by simp) fun _ _ _ => ?_
 refine tq hΓ [] [] ?_
 refine tq hΓ [5] [] ?_
 refine AWp.seq ?_
 refine tq hΓ [11] [0] ?_
 refine AWp.foldK (kE := vA Tb.enc) (vE := vA Tg.enc) (i := 4) (u := 6) (mm := 7) Tb.kval_enc Tb.kinj (fun (e : Tb × Tg) (n : Int) => bif eqI e.1.fu x1 then addI .i64 n 1 else n) (fun x y a => bif_swap _ _ a) x0.ff 0 (fun a vis1 cur1 => ⟨[⟨11, none, .it 6⟩, ⟨5, none, .n a⟩, ⟨1, none, .n x1⟩], [.blk [.ptr 1 0, .mp 3, .mp 4, .mp 5], .blk [.mp 2, .n x0.fb.fj], .mapo (encM (kI .i64) (vA Ta.enc) x0.fb.fe), .mapo (encM (vA Tc.enc) (vA Te.enc) x0.fc), .mapr (linksM x0.ff) vis1 cur1 6, .mapo (encM (kI .u32) (vA Tf.enc) x0.fg), .dead]⟩) (fun a => ⟨[⟨5, none, .n a⟩], [.blk [.ptr 1 0, .mp 3, .mp 4, .mp 5], .blk [.mp 2, .n x0.fb.fj], .mapo (encM (kI .i64) (vA Ta.enc) x0.fb.fe), .mapo (encM (vA Tc.enc) (vA Te.enc) x0.fc), .mapo (linksM x0.ff), .mapo (encM (kI .u32) (vA Tf.enc) x0.fg)]⟩) (fun _ _ _ => rfl) (by simp) (fun a vis1 cur1 => ?_) (fun σ1 mx hc => ?_)
 ·refine AWp.seq (AWp.regNextK Tryz.tyOk hΓ (t := 11) (u := 6) (i := 4) (d1 := 12) rfl rfl rfl rfl (keep := [13]) (dead := []) (by kernel_rfl) rfl (by simp) rfl (fun q hq => ?_) (fun h15 => ⟨⟨[⟨13, none, .b false⟩, ⟨11, none, .it 6⟩, ⟨5, none, .n a⟩, ⟨1, none, .n x1⟩], [.blk [.ptr 1 0, .mp 3, .mp 4, .mp 5], .blk [.mp 2, .n x0.fb.fj], .mapo (encM (kI .i64) (vA Ta.enc) x0.fb.fe), .mapo (encM (vA Tc.enc) (vA Te.enc) x0.fc), .mapr (linksM x0.ff) vis1 cur1 6, .mapo (encM (kI .u32) (vA Tf.enc) x0.fg), .dead]⟩, by simp, ?_⟩) (fun c k v x q1 q2 q3 => ?_))
  ·obtain ⟨e, _, rfl⟩ := List.mem_map.1 hq
   exact ⟨_, Tb.kval_enc e.1⟩
  ·refine AWp.seq ?_
   refine AWp.cond (b := false) (by simp) (fun hx => ?_) (fun hx => ?_)
   ·cases hx
   ·refine AWp.exit ?_
    refine .inl ⟨rfl, fun k v hm => ?_, 6, by simp⟩
    exact h15 _ _ _ (List.mem_map.2 ⟨(k, v), hm, rfl⟩) (Tb.kval_enc k)
  ·obtain ⟨⟨l, s0⟩, hm, he⟩ := List.mem_map.1 q3
   simp only [Prod.mk.injEq] at he
   obtain ⟨rfl, rfl⟩ := he
   rw [Tb.kval_enc l] at q1
   obtain rfl := Option.some.inj q1
   have hc0 := hasC_enc (vE := vA Tg.enc) Tb.sameL_enc l x0.ff
   rw [hasM_memK Tb.eq_iff hm] at hc0
   simp only [Tb.enc] at hc0
   have hc1 := fun z => getC_enc (vE := vA Tg.enc) Tb.sameL_enc l z default x0.ff (hasM_memK Tb.eq_iff hm)
   simp only [Tb.enc] at hc1
   generalize getM Tb.eq l default x0.ff = s at hc1
   refine ⟨⟨[⟨13, none, .lit (.bool true)⟩, ⟨11, none, .it 6⟩, ⟨5, none, .lit (.int .i64 a)⟩, ⟨1, none, .lit (.int .i64 x1)⟩], [.blk [.ptr 1 0, .mp 3, .mp 4, .mp 5], .blk [.mp 2, .lit (.int .i64 x0.fb.fj)], .mapo (encM (kI .i64) (vA Ta.enc) x0.fb.fe), .mapo (encM (vA Tc.enc) (vA Te.enc) x0.fc), .mapr (linksM x0.ff) (keyVal l.enc :: vis1) (some (keyVal l.enc)) 6, .mapo (encM (kI .u32) (vA Tf.enc) x0.fg), .dead]⟩, by simp, ?_⟩
   refine AWp.seq ?_
   refine AWp.cond (b := true) (by simp) (fun hx => ?_) (fun hx => ?_)
   ·refine AWp.skip ?_
    refine AWp.block ?_
    refine tq hΓ [6] [13] ?_ (by simp [keyVal, litV, isLit, hc0, hc1, vA]; exact rr)
    refine tq hΓ [19] [6] ?_
    refine AWp.cond (b := eqI l.fu x1) (by simp) (fun h19 => ?_) (fun h19 => ?_)
    ·refine tl hΓ [5] [19] ?_
     exact .inr ⟨rfl, l, s0, q2, hm, 7, by simp [linksM, keyVal, litV, h19]⟩
    ·refine AWp.skip ?_
     exact .inr ⟨rfl, l, s0, q2, hm, 7, by simp [linksM, keyVal, litV, h19]⟩
   ·cases hx
 ·refine AWp.conv hc ?_
  refine tq hΓ [4] [5] ?_
  exact AWp.ret (Le (by simp))
end Go.Proofs
end
section
namespace Go.Proofs
open Go.Ab
@[simp] def gN.m (x0 : Tj) : List AObj := [.blk [.mp 1, .lit (.int .i64 x0.fj)], .mapo (encM (kI .i64) (vA Ta.enc) x0.fe)]
@[simp] def gN.out (_x0 : Tj) (r : List ByteArray) : Out := { av := .sl (r.map eTxt) .no, M := none }
set_option maxHeartbeats 4000000 in
set_option maxRecDepth 100000 in
theorem gN.can (x0 : Tj) (r : List ByteArray) (hr : gN x0 = some r) : CallOk Tryz.prog 84 [.ptr 0 0] (gN.m x0) (gN.out x0 r) := by
 unfold gN at hr
 obtain ⟨r1, h1, hr⟩ := Ld (show (gap x0).bind (fun r1 => some r1) = some r from hr)
 obtain rfl := La hr
 exact gap.can x0 _ h1

@[simp] noncomputable def gN.S : Sp
  | [.ptr i0 0], M => (rdB M i0).bind fun c0 => (rdM c0 0).bind fun i1 => (rdE M i1).bind fun c1 => some { av := .sl (((gN (Tj.dec c0 (decM dkI (dvA Ta.dec) c1))).getD dflt).map eTxt) .no, M := none, obl := c0 = Tj.enc (Tj.dec c0 (decM dkI (dvA Ta.dec) c1)) i1 ∧ c1 = encM (kI .i64) (vA Ta.enc) ((Tj.dec c0 (decM dkI (dvA Ta.dec) c1)).fe) ∧ (gN (Tj.dec c0 (decM dkI (dvA Ta.dec) c1))).isSome = true ∧ i0 ≠ i1 }
  | _, _ => none

set_option maxHeartbeats 1000000 in
theorem gN.ok : SpecOk Tryz.prog 84 gN.S := by
 intro l M out h
 unfold gN.S at h
 split at h
 ·rename_i i0
  obtain ⟨c0, hM0, h⟩ := bB h
  obtain ⟨i1, he1, h⟩ := bM h
  obtain ⟨c1, hM1, h⟩ := bE h
  cases h
  refine callOk_of fun ho => ?_
  obtain ⟨oc0, oc1, hs, hne0⟩ := ho
  generalize (Tj.dec c0 (decM dkI (dvA Ta.dec) c1)) = y0 at *
  subst oc0
  subst oc1
  obtain ⟨r, hr⟩ := so1 hs
  simp only [hr, gd1]
  have q := Lh (M := M) [i0, i1] (gN.can y0 r hr) (by simp [hne0]) rfl (ix (by simp [hM0, into]) (ix (by simp [hM1]) ixn))
  exact callOk_conv q trivial (by simp [into]) (by simp [frameOut, into]) (by simp only [frameOut, gN.out, Option.getD_some, Option.getD_none]; simp [into, hM0, hM1, set_same])
 ·cases h
end Go.Proofs
end
