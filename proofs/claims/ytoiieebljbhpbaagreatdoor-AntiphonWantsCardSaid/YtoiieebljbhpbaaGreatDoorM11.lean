import Derived.Test.YtoiieebljbhpbaaGreatDoorM09
import Derived.Test.YtoiieebljbhpbaaGreatDoorM02
import Derived.Test.YtoiieebljbhpbaaGreatDoorM08
import Derived.Test.YtoiieebljbhpbaaGreatDoorTy
import Derived.Test.YtoiieebljbhpbaaGreatDoorTs
import Derived.Test.YtoiieebljbhpbaaGreatDoorM04
section
set_option maxRecDepth 100000
namespace Go.Proofs
open Go.Ab
theorem bif_swap (p q : Bool) (n : Int) : (bif p then addI .i64 (bif q then addI .i64 n 1 else n) 1 else (bif q then addI .i64 n 1 else n)) = (bif q then addI .i64 (bif p then addI .i64 n 1 else n) 1 else (bif p then addI .i64 n 1 else n)) := by
 cases p <;> cases q <;> rfl
theorem gaD.can (x0 : Th) (x1 : Int) (r : Int) (hr : gaD x0 x1 = some r) : qao Tryz.prog 89 [.ptr 0 0, .lit (.int .i64 x1)] [.blk [.ptr 1 0, .mp 3, .mp 4, .mp 5], .blk [.mp 2, .lit (.int .i64 x0.fd.fj)], .mapo (qas (kI .i64) (vA Ta.enc) x0.fd.fe), .mapo (qas (vA Tc.enc) (vA Te.enc) x0.fb), .mapo (qas (vA Tb.enc) (vA Tf.enc) x0.fg), .mapo (qas (kI .u32) (vA Tg.enc) x0.fh)] { av := .lit (.int .i64 r), M := none } := by
 unfold gaD at hr;obtain rfl := La hr;have hΓ := qae (P := Tryz.prog);refine cw Tryz.func89 rfl (by kernel_rfl) rfl rfl (by simp) fun _ _ _ => ?_;refine tq hΓ [] [] ?_;refine tq hΓ [5] [] ?_;refine AWp.seq ?_;refine tq hΓ [11] [0] ?_;refine AWp.foldK (kE := vA Tb.enc) (vE := vA Tf.enc) (i := 4) (u := 6) (mm := 7) Tb.kval_enc Tb.kinj (fun (e : Tb × Tf) (n : Int) => bif eqI e.1.fu x1 then addI .i64 n 1 else n) (fun x y a => bif_swap _ _ a) x0.fg 0 (fun a vis1 cur1 => ⟨[⟨11, none, .it 6⟩, ⟨5, none, .n a⟩, ⟨1, none, .n x1⟩], [.blk [.ptr 1 0, .mp 3, .mp 4, .mp 5], .blk [.mp 2, .n x0.fd.fj], .mapo (qas (kI .i64) (vA Ta.enc) x0.fd.fe), .mapo (qas (vA Tc.enc) (vA Te.enc) x0.fb), .mapr (linksM x0.fg) vis1 cur1 6, .mapo (qas (kI .u32) (vA Tg.enc) x0.fh), .dead]⟩) (fun a => ⟨[⟨5, none, .n a⟩], [.blk [.ptr 1 0, .mp 3, .mp 4, .mp 5], .blk [.mp 2, .n x0.fd.fj], .mapo (qas (kI .i64) (vA Ta.enc) x0.fd.fe), .mapo (qas (vA Tc.enc) (vA Te.enc) x0.fb), .mapo (linksM x0.fg), .mapo (qas (kI .u32) (vA Tg.enc) x0.fh)]⟩) (fun _ _ _ => rfl) (by simp) (fun a vis1 cur1 => ?_) (fun σ1 mx hc => ?_)
 ·refine AWp.seq (AWp.regNextK Tryz.tyOk hΓ (t := 11) (u := 6) (i := 4) (d1 := 12) rfl rfl rfl rfl (keep := [13]) (dead := []) (by kernel_rfl) rfl (by simp) rfl (fun q hq => ?_) (fun h15 => ⟨⟨[⟨13, none, .b false⟩, ⟨11, none, .it 6⟩, ⟨5, none, .n a⟩, ⟨1, none, .n x1⟩], [.blk [.ptr 1 0, .mp 3, .mp 4, .mp 5], .blk [.mp 2, .n x0.fd.fj], .mapo (qas (kI .i64) (vA Ta.enc) x0.fd.fe), .mapo (qas (vA Tc.enc) (vA Te.enc) x0.fb), .mapr (linksM x0.fg) vis1 cur1 6, .mapo (qas (kI .u32) (vA Tg.enc) x0.fh), .dead]⟩, by simp, ?_⟩) (fun c k v x q1 q2 q3 => ?_))
  ·obtain ⟨e, _, rfl⟩ := List.mem_map.1 hq;exact ⟨_, Tb.kval_enc e.1⟩
  ·refine AWp.seq ?_;refine AWp.cond (b := false) (by simp) (fun hx => ?_) (fun hx => ?_)
   ·cases hx
   ·refine AWp.exit ?_;refine .inl ⟨rfl, fun k v hm => ?_, 6, by simp⟩;exact h15 _ _ _ (List.mem_map.2 ⟨(k, v), hm, rfl⟩) (Tb.kval_enc k)
  ·obtain ⟨⟨l, s0⟩, hm, he⟩ := List.mem_map.1 q3;simp only [Prod.mk.injEq] at he;obtain ⟨rfl, rfl⟩ := he;rw [Tb.kval_enc l] at q1;obtain rfl := Option.some.inj q1;have hc0 := hasC_enc (vE := vA Tf.enc) Tb.sameL_enc l x0.fg;rw [hasM_memK Tb.eq_iff hm] at hc0;simp only [Tb.enc] at hc0;have hc1 := fun z => getC_enc (vE := vA Tf.enc) Tb.sameL_enc l z default x0.fg (hasM_memK Tb.eq_iff hm);simp only [Tb.enc] at hc1;generalize getM Tb.eq l default x0.fg = s at hc1;refine ⟨⟨[⟨13, none, .lit (.bool true)⟩, ⟨11, none, .it 6⟩, ⟨5, none, .lit (.int .i64 a)⟩, ⟨1, none, .lit (.int .i64 x1)⟩], [.blk [.ptr 1 0, .mp 3, .mp 4, .mp 5], .blk [.mp 2, .lit (.int .i64 x0.fd.fj)], .mapo (qas (kI .i64) (vA Ta.enc) x0.fd.fe), .mapo (qas (vA Tc.enc) (vA Te.enc) x0.fb), .mapr (linksM x0.fg) (keyVal l.enc :: vis1) (some (keyVal l.enc)) 6, .mapo (qas (kI .u32) (vA Tg.enc) x0.fh), .dead]⟩, by simp, ?_⟩;refine AWp.seq ?_;refine AWp.cond (b := true) (by simp) (fun hx => ?_) (fun hx => ?_)
   ·refine AWp.skip ?_;refine AWp.block ?_;refine tq hΓ [6] [13] ?_ (by simp [keyVal, litV, isLit, hc0, hc1, vA]; exact rr);refine tq hΓ [19] [6] ?_;refine AWp.cond (b := eqI l.fu x1) (by simp) (fun h19 => ?_) (fun h19 => ?_)
    ·refine tl hΓ [5] [19] ?_;exact .inr ⟨rfl, l, s0, q2, hm, 7, by simp [linksM, keyVal, litV, h19]⟩
    ·refine AWp.skip ?_;exact .inr ⟨rfl, l, s0, q2, hm, 7, by simp [linksM, keyVal, litV, h19]⟩
   ·cases hx
 ·refine AWp.conv hc ?_;refine tq hΓ [4] [5] ?_;exact AWp.ret (Ld (by simp))
end Go.Proofs
end
section
namespace Go.Proofs
open Go.Ab
@[simp] def gS.m (x0 : Tp) : List qau := [.blk [.mp 1, .lit (.int .i64 x0.fj)], .mapo (qas (kI .i64) (vA Ta.enc) x0.fe)]
@[simp] def gS.out (_x0 : Tp) (r : List ByteArray) : Out := { av := .sl (r.map eTxt) .no, M := none }
set_option maxHeartbeats 4000000 in
set_option maxRecDepth 100000 in
theorem gS.can (x0 : Tp) (r : List ByteArray) (hr : gS x0 = some r) : qao Tryz.prog 84 [.ptr 0 0] (gS.m x0) (gS.out x0 r) := by
 unfold gS at hr;obtain ⟨r1, h1, hr⟩ := Lb (show (gaK x0).bind (fun r1 => some r1) = some r from hr);obtain rfl := La hr;exact gaK.can x0 _ h1
@[simp] noncomputable def gS.S : Sp
  | [.ptr i0 0], M => (rdB M i0).bind fun c0 => (rdM c0 0).bind fun i1 => (rdE M i1).bind fun c1 => some { av := .sl (((gS (Tp.dec c0 (decM dkI (dvA Ta.dec) c1))).getD dflt).map eTxt) .no, M := none, obl := c0 = Tp.enc (Tp.dec c0 (decM dkI (dvA Ta.dec) c1)) i1 ∧ c1 = qas (kI .i64) (vA Ta.enc) ((Tp.dec c0 (decM dkI (dvA Ta.dec) c1)).fe) ∧ (gS (Tp.dec c0 (decM dkI (dvA Ta.dec) c1))).isSome = true ∧ i0 ≠ i1 }
  | _, _ => none
set_option maxHeartbeats 1000000 in
theorem gS.ok : qap Tryz.prog 84 gS.S := by
 intro l M out h;unfold gS.S at h;split at h
 ·rename_i i0;obtain ⟨c0, hM0, h⟩ := bB h;obtain ⟨i1, he1, h⟩ := bM h;obtain ⟨c1, hM1, h⟩ := bE h;cases h;refine qad fun ho => ?_;obtain ⟨oc0, oc1, hs, hne0⟩ := ho;generalize (Tp.dec c0 (decM dkI (dvA Ta.dec) c1)) = y0 at *
  subst oc0;subst oc1;obtain ⟨r, hr⟩ := so1 hs;simp only [hr, gd1];have q := Lf (M := M) [i0, i1] (gS.can y0 r hr) (by simp [hne0]) rfl (ix (by simp [hM0, into]) (ix (by simp [hM1]) ixn));exact qac q trivial (by simp [into]) (by simp [qaa, into]) (by simp only [qaa, gS.out, Option.getD_some, Option.getD_none]; simp [into, hM0, hM1, set_same])
 ·cases h
end Go.Proofs
end
section
namespace Go.Proofs
open Go.Ab
noncomputable def gas.loop1 (x0 : Tn) (x1 : Int) (x2 : Int) (s1 : Int × List Tu) : Option (Fl (Int × List Tu) (Fl (List Tu) Tn)) :=
 bif (ltI s1.1 (qat x0.fb)) then (
  need (InB s1.1 (qat x0.fb)) <|
  bif (qaf (neI ((nthI x0.fb s1.1).fc) x1) true (neI ((nthI x0.fb s1.1).fN) x2)) then (
   need (AppB (qat s1.2) 1 48) <|
   some (.go ((addI .i64 s1.1 1), (appL s1.2 [(nthI x0.fb s1.1)])))
  ) else (
    some (.go ((addI .i64 s1.1 1), s1.2))
  )
 ) else (
   some (.out (.go s1.2))
 )
noncomputable def gas.loop2 (x0 : Tn) (x1 : Int) (x2 : Int) (s2 : Int × List Ts) : Option (Fl (Int × List Ts) (Fl (List Ts) Tn)) :=
 bif (ltI s2.1 (qat x0.fg)) then (
  need (InB s2.1 (qat x0.fg)) <|
  bif (qaf (neI ((nthI x0.fg s2.1).fc) x1) true (neI ((nthI x0.fg s2.1).fN) x2)) then (
   need (AppB (qat s2.2) 1 40) <|
   some (.go ((addI .i64 s2.1 1), (appL s2.2 [(nthI x0.fg s2.1)])))
  ) else (
    some (.go ((addI .i64 s2.1 1), s2.2))
  )
 ) else (
   some (.out (.go s2.2))
 )
noncomputable def gas (x0 : Tn) (x1 : Int) (x2 : Int) : Option Tn :=
 ((loopF (gas.loop1 x0 x1 x2) (0, [])).bind fun f => flC f fun (v1 : List Tu) =>
   ((loopF (gas.loop2 x0 x1 x2) (0, [])).bind fun f => flC f fun (v2 : List Ts) =>
     some (Tn.mk x0.fT v1 v2)
   )
 )
noncomputable def gaw.loop1 (x1 : Int) (s1 : Int × Tn) : Option (Fl (Int × Tn) (Fl Tn Tn)) :=
 bif (ltI s1.1 4) then (
  ((gas s1.2 x1 s1.1)).bind fun r2 =>
  some (.go ((addI .i64 s1.1 1), r2))
 ) else (
   some (.out (.go s1.2))
 )
noncomputable def gaw.loop2 (x1 : Int) (v1 : Tn) (s2 : Int × List Ts) : Option (Fl (Int × List Ts) (Fl (List Ts) Tn)) :=
 bif (ltI s2.1 (qat v1.fg)) then (
  need (InB s2.1 (qat v1.fg)) <|
  bif (neI ((nthI v1.fg s2.1).fu) x1) then (
   need (AppB (qat s2.2) 1 40) <|
   some (.go ((addI .i64 s2.1 1), (appL s2.2 [(nthI v1.fg s2.1)])))
  ) else (
    some (.go ((addI .i64 s2.1 1), s2.2))
  )
 ) else (
   some (.out (.go s2.2))
 )
noncomputable def gaw (x0 : Tn) (x1 : Int) : Option Tn :=
 ((gaR x0.fT x1)).bind fun r1 =>
 ((loopF (gaw.loop1 x1) (0, (Tn.mk (Tq.mk r1.1.fL r1.1.fj) x0.fb x0.fg))).bind fun f => flC f fun (v1 : Tn) =>
   ((loopF (gaw.loop2 x1 v1) (0, [])).bind fun f => flC f fun (v2 : List Ts) =>
     some (Tn.mk v1.fT v1.fb v2)
   )
 )
noncomputable def gan.loop1 (x0 : Tn) (x1 : Int) (x2 : Int) (s1 : Int) : Option (Fl Int (Fl Unit Int)) :=
 bif (ltI s1 (qat x0.fb)) then (
  need (InB s1 (qat x0.fb)) <|
  bif (qaf (eqI ((nthI x0.fb s1).fc) x1) (eqI ((nthI x0.fb s1).fN) x2) false) then (
   some (.out (.out s1))
  ) else (
    some (.go (addI .i64 s1 1))
  )
 ) else (
   some (.out (.go ()))
 )
noncomputable def gan (x0 : Tn) (x1 : Int) (x2 : Int) : Option Int :=
 ((loopF (gan.loop1 x0 x1 x2) 0).bind fun f => flC f fun (_v1 : Unit) =>
   some (-1)
 )
noncomputable def gal.loop2 (x0 : Tn) (x1 : Int) (s1 : Int) (s2 : Int) : Option (Fl Int (Fl Unit (Fl Int (Fl Unit (Int × Int))))) :=
 bif (ltI s2 (qat ((nthI x0.fb s1).fa))) then (
  need (InB s2 (qat ((nthI x0.fb s1).fa))) <|
  bif (eqI (nthI ((nthI x0.fb s1).fa) s2) x1) then (
   some (.out (.out (.out (.out (s1, s2)))))
  ) else (
    some (.go (addI .i64 s2 1))
  )
 ) else (
   some (.out (.go ()))
 )
noncomputable def gal.loop1 (x0 : Tn) (x1 : Int) (s1 : Int) : Option (Fl Int (Fl Unit (Int × Int))) :=
 bif (ltI s1 (qat x0.fb)) then (
  need (InB s1 (qat x0.fb)) <|
  ((loopF (gal.loop2 x0 x1 s1) 0).bind fun f => flC f fun (_v2 : Unit) =>
    some (.go (addI .i64 s1 1))
  )
 ) else (
   some (.out (.go ()))
 )
noncomputable def gal (x0 : Tn) (x1 : Int) : Option (Int × Int) :=
 ((loopF (gal.loop1 x0 x1) 0).bind fun f => flC f fun (_v1 : Unit) =>
   some ((-1), 0)
 )
noncomputable def gaN.loop1 (x0 : Tn) (x1 : Td) (s1 : Int) : Option (Fl Int (Fl Unit (Tn × Int))) :=
 bif (ltI s1 (qat x1.fa)) then (
  need (InB s1 (qat x1.fa)) <|
  ((gal x0 (nthI x1.fa s1))).bind fun r2 =>
  bif (leqI 0 r2.1) then (
   some (.out (.out (x0, 16)))
  ) else (
    some (.go (addI .i64 s1 1))
  )
 ) else (
   some (.out (.go ()))
 )
noncomputable def gaN (x0 : Tn) (x1 : Td) : Option (Tn × Int) :=
 ((gan x0 x1.fc x1.ff)).bind fun r1 =>
 bif (leqI 0 r1) then (
  some (x0, 10)
 ) else (
   ((loopF (gaN.loop1 x0 x1) 0).bind fun f => flC f fun (_v1 : Unit) =>
     need (AppB 0 (qat x0.fb) 48) <|
     need (AppB (qat x0.fb) 1 48) <|
     some ((Tn.mk x0.fT (appL (appL [] x0.fb) [(Tu.mk x1.fc x1.ff x1.fq false x1.fa)]) x0.fg), 0)
   )
 )
noncomputable def gaG.loop1 (x0 : Tn) (x1 : Int) (x2 : Int) (x3 : Int) (s1 : Int) : Option (Fl Int (Fl Unit Int)) :=
 bif (ltI s1 (qat x0.fg)) then (
  need (InB s1 (qat x0.fg)) <|
  bif (qaf (qaf (eqI ((nthI x0.fg s1).fu) x1) (eqI ((nthI x0.fg s1).fc) x2) false) (eqI ((nthI x0.fg s1).fN) x3) false) then (
   some (.out (.out s1))
  ) else (
    some (.go (addI .i64 s1 1))
  )
 ) else (
   some (.out (.go ()))
 )
noncomputable def gaG (x0 : Tn) (x1 : Int) (x2 : Int) (x3 : Int) : Option Int :=
 ((loopF (gaG.loop1 x0 x1 x2 x3) 0).bind fun f => flC f fun (_v1 : Unit) =>
   some (-1)
 )
noncomputable def ga6 (x0 : Ts) (x1 : Ts) : Option Bool :=
 bif (neI x0.fu x1.fu) then (
  some (ltI x0.fu x1.fu)
 ) else (
   bif (neI x0.fc x1.fc) then (
    some (ltI x0.fc x1.fc)
   ) else (
     some (ltI x0.fN x1.fN)
   )
 )
noncomputable def gaC.loop1 (x0 : List Ts) (x1 : Ts) (s1 : Int × Bool × List Ts) : Option (Fl (Int × Bool × List Ts) (Fl (Bool × List Ts) (List Ts))) :=
 bif (ltI s1.1 (qat x0)) then (
  need (InB s1.1 (qat x0)) <|
  ((
   need (Under (notB s1.2.1) true ((ga6 x1 (nthI x0 s1.1)).isSome = true)) <|
   bif (qaf (notB s1.2.1) ((ga6 x1 (nthI x0 s1.1)).getD dflt) false) then (
    need (AppB (qat s1.2.2) 1 40) <|
    some (.go (true, (appL s1.2.2 [x1])))
   ) else (
     some (.go (s1.2.1, s1.2.2))
   )
   : Option (Fl (Bool × List Ts) (Fl (Int × Bool × List Ts) (Fl (Bool × List Ts) (List Ts))))).bind fun f => flC f fun (v2 : Bool × List Ts) =>
   need (AppB (qat v2.2) 1 40) <|
   some (.go ((addI .i64 s1.1 1), v2.1, (appL v2.2 [(nthI x0 s1.1)])))
  )
 ) else (
   some (.out (.go (s1.2.1, s1.2.2)))
 )
noncomputable def gaC (x0 : List Ts) (x1 : Ts) : Option (List Ts) :=
 ((loopF (gaC.loop1 x0 x1) (0, false, [])).bind fun f => flC f fun (v1 : Bool × List Ts) =>
   ((
    bif (notB v1.1) then (
     need (AppB (qat v1.2) 1 40) <|
     some (.go (appL v1.2 [x1]))
    ) else (
      some (.go v1.2)
    )
    : Option (Fl (List Ts) (List Ts))).bind fun f => flC f fun (v3 : List Ts) =>
    some v3
   )
 )
noncomputable def gaI.loop1 (x0 : Tn) (x1 : Td) (s1 : Int × Int) : Option (Fl (Int × Int) (Fl Int (Tn × Int))) :=
 bif (ltI s1.1 (qat x0.fg)) then (
  need (InB s1.1 (qat x0.fg)) <|
  bif (eqI ((nthI x0.fg s1.1).fu) x1.fc) then (
   some (.go ((addI .i64 s1.1 1), (addI .i64 s1.2 1)))
  ) else (
    some (.go ((addI .i64 s1.1 1), s1.2))
  )
 ) else (
   some (.out (.go s1.2))
 )
noncomputable def gaI (x0 : Tn) (x1 : Td) : Option (Tn × Int) :=
 bif (eqI x1.fOf x1.fc) then (
  some (x0, 15)
 ) else (
   ((ga4 x0.fT x1.fc x1.fOf)).bind fun r1 =>
   bif (notB r1) then (
    some (x0, 7)
   ) else (
     ((gan x0 x1.fOf x1.ff)).bind fun r2 =>
     bif (ltI r2 0) then (
      some (x0, 9)
     ) else (
       ((gaG x0 x1.fc x1.fOf x1.ff)).bind fun r3 =>
       bif (leqI 0 r3) then (
        need (AppB 0 (qat x0.fg) 40) <|
        need (InB r3 (qat x0.fg)) <|
        some ((Tn.mk x0.fT x0.fb (setI x0.fg r3 (Ts.mk ((nthI x0.fg r3).fu) ((nthI x0.fg r3).fc) ((nthI x0.fg r3).fN) x1.fo ((nthI x0.fg r3).fw)))), 0)
       ) else (
         ((loopF (gaI.loop1 x0 x1) (0, 0)).bind fun f => flC f fun (v1 : Int) =>
           bif (leqI 16 v1) then (
            some (x0, 11)
           ) else (
             ((gaC x0.fg (Ts.mk x1.fc x1.fOf x1.ff x1.fo false))).bind fun r4 =>
             some ((Tn.mk x0.fT x0.fb r4), 0)
           )
         )
       )
     )
   )
 )
noncomputable def ga9 (x0 : Tn) (x1 : Td) : Option (Tn × Int) :=
 bif (qaf (eqI x1.fk 6) true (eqI x1.fk 8)) then (
  ((gaG x0 x1.fc x1.fOf x1.ff)).bind fun r1 =>
  bif (ltI r1 0) then (
   some (x0, 12)
  ) else (
    need (AppB 0 (qat x0.fg) 40) <|
    need (InB r1 (qat x0.fg)) <|
    ((
     bif (eqI x1.fk 6) then (
      need (CutB 0 r1 (qat x0.fg)) <|
      need (AppB 0 (qat (cutL x0.fg 0 r1)) 40) <|
      need (CutB (addI .i64 r1 1) (qat x0.fg) (qat x0.fg)) <|
      need (AppB (qat (cutL x0.fg 0 r1)) (qat (cutL x0.fg (addI .i64 r1 1) (qat x0.fg))) 40) <|
      some (.go (appL (appL [] (cutL x0.fg 0 r1)) (cutL x0.fg (addI .i64 r1 1) (qat x0.fg))))
     ) else (
       some (.go (setI x0.fg r1 (Ts.mk ((nthI x0.fg r1).fu) ((nthI x0.fg r1).fc) ((nthI x0.fg r1).fN) ((nthI x0.fg r1).fo) x1.fOn)))
     )
     : Option (Fl (List Ts) (Tn × Int))).bind fun f => flC f fun (v1 : List Ts) =>
     some ((Tn.mk x0.fT x0.fb v1), 0)
    )
  )
 ) else (
   ((gan x0 x1.fc x1.ff)).bind fun r2 =>
   bif (ltI r2 0) then (
    some (x0, 9)
   ) else (
     bif (eqI x1.fk 4) then (
      ((gas x0 x1.fc x1.ff)).bind fun r3 =>
      some (r3, 0)
     ) else (
       need (AppB 0 (qat x0.fb) 48) <|
       need (InB r2 (qat x0.fb)) <|
       some ((Tn.mk x0.fT (setI x0.fb r2 (Tu.mk ((nthI x0.fb r2).fc) ((nthI x0.fb r2).fN) ((nthI x0.fb r2).fq) x1.fOn ((nthI x0.fb r2).fa))) x0.fg), 0)
     )
   )
 )
noncomputable def gbd (x0 : Tn) (x1 : Td) : Option (Tn × Int × Int) :=
 ((gaF x1)).bind fun r1 =>
 bif (neI r1 0) then (
  some (x0, 0, r1)
 ) else (
   bif (eqI x1.fk 1) then (
    ((gaT x0.fT x1.fm x1.fp)).bind fun r2 =>
    some ((Tn.mk (Tq.mk r2.1.fL r2.1.fj) x0.fb x0.fg), r2.2.1, r2.2.2)
   ) else (
     ((gaM x0.fT x1.fc)).bind fun r3 =>
     bif (notB r3.2) then (
      some (x0, 0, 8)
     ) else (
       bif (eqI x1.fk 2) then (
        ((gaw x0 x1.fc)).bind fun r4 =>
        some (r4, 0, 0)
       ) else (
         bif (eqI x1.fk 3) then (
          ((gaN x0 x1)).bind fun r5 =>
          some (r5.1, 0, r5.2)
         ) else (
           bif (eqI x1.fk 5) then (
            ((gaI x0 x1)).bind fun r6 =>
            some (r6.1, 0, r6.2)
           ) else (
             ((ga9 x0 x1)).bind fun r7 =>
             some (r7.1, 0, r7.2)
           )
         )
       )
     )
   )
 )
end Go.Proofs
end
section
namespace Go.Proofs
open Go.Ab
noncomputable def ga7.loop2 (r6 : List Ta) (r7 : List Ta) (s2 : Int) : Option (Fl Int (Fl Unit (Fl Int (Fl Unit Int)))) :=
 bif (ltI s2 (qat r7)) then (
  need (InB s2 (qat r6)) <|
  need (InB s2 (qat r7)) <|
  bif (notB (qaf (eqI ((nthI r6 s2).fN) ((nthI r7 s2).fN)) (qaf (eqS ((nthI r6 s2).fp) ((nthI r7 s2).fp)) (eqS ((nthI r6 s2).fm) ((nthI r7 s2).fm)) false) false)) then (
   some (.out (.out (.out (.out (-1)))))
  ) else (
    some (.go (addI .i64 s2 1))
  )
 ) else (
   some (.out (.go ()))
 )
noncomputable def ga7.loop1 (x0 : Tp) (x1 : Tq) (r3 : List ByteArray) (s1 : Int) : Option (Fl Int (Fl Unit Int)) :=
 bif (ltI s1 (qat r3)) then (
  need (InB s1 (qat r3)) <|
  ((gG x0 (nthI r3 s1))).bind fun r6 =>
  ((gaU x1 (nthI r3 s1))).bind fun r7 =>
  need (Under (ltI 0 s1) true (InB (subI .i64 s1 1) (qat r3))) <|
  bif (qaf (qaf (qaf (qaf (ltI 0 s1) (notB (ltS (nthI r3 (subI .i64 s1 1)) (nthI r3 s1))) false) true (neI (qat r6) (qat r7))) true (eqI (qat r6) 0)) true (ltI 16 (qat r6))) then (
   some (.out (.out (-1)))
  ) else (
    ((loopF (ga7.loop2 r6 r7) 0).bind fun f => flC f fun (_v2 : Unit) =>
      some (.go (addI .i64 s1 1))
    )
  )
 ) else (
   some (.out (.go ()))
 )
noncomputable def ga7 (x0 : Tp) (x1 : Tq) (x2 : Int) : Option Int :=
 ((gU x0 x2)).bind fun r1 =>
 ((gaM x1 x2)).bind fun r2 =>
 ((gS x0)).bind fun r3 =>
 ((gaL x1)).bind fun r4 =>
 ((gaS x0)).bind fun r5 =>
 bif (qaf (qaf (qaf (qaf (neI r5 (qat x1.fL)) true (notB (qaf (eqI r1.1.fN r2.1.fN) (qaf (eqS r1.1.fp r2.1.fp) (eqS r1.1.fm r2.1.fm) false) false))) true (neB r1.2 r2.2)) true (neI (qat r3) (qat r4))) true (ltI 8 (qat r3))) then (
  some (-1)
 ) else (
   ((loopF (ga7.loop1 x0 x1 r3) 0).bind fun f => flC f fun (_v1 : Unit) =>
     some 0
   )
 )
end Go.Proofs
end
