import Derived.Test.YtoiieebljbhpbaaGreatDoorTs
import Derived.Test.YtoiieebljbhpbaaGreatDoorM04
import Derived.Test.YtoiieebljbhpbaaGreatDoorM03
import Derived.Test.YtoiieebljbhpbaaGreatDoorM08
import Derived.Test.YtoiieebljbhpbaaGreatDoorM17
import Derived.Test.YtoiieebljbhpbaaGreatDoorM14
import Derived.Test.YtoiieebljbhpbaaGreatDoorM11
import Derived.Test.YtoiieebljbhpbaaGreatDoorTy
import Derived.Test.YtoiieebljbhpbaaGreatDoorM13
import Derived.Test.YtoiieebljbhpbaaGreatDoorM07
import Derived.Test.YtoiieebljbhpbaaGreatDoorHa
import Derived.Test.YtoiieebljbhpbaaGreatDoorHc
section
namespace Go.Proofs
open Go.Ab
noncomputable def gt.loop2 (r3 : Tc) (r6 : Te × Int × Int) (r9 : List Int) (s2 : Int × Int) : Option (Fl (Int × Int) (Fl Int (Fl (Int × (List (Int × Ta)) × Int × (List (Td × Th)) × (List (Tb × Tf)) × (List (Int × Tj)) × Te) (Fl ((List (Int × Ta)) × Int × (List (Td × Th)) × (List (Tb × Tf)) × (List (Int × Tj)) × Te) Bool)))) :=
 bif (ltI s2.1 (lenL r6.1.fd)) then (
  need (InB s2.1 (lenL r6.1.fd)) <|
  bif (pickB (eqI ((nthI r6.1.fd s2.1).fc) r3.fOf) (eqI ((nthI r6.1.fd s2.1).fN) r3.ff) false) then (
   need (Under (leqI (lenL r9) s2.2) false (InB s2.2 (lenL r9))) <|
   bif (pickB (leqI (lenL r9) s2.2) true (neI (nthI r9 s2.2) ((nthI r6.1.fd s2.1).fu))) then (
    some (.out (.out (.out (.out false))))
   ) else (
     some (.go ((addI .i64 s2.1 1), (addI .i64 s2.2 1)))
   )
  ) else (
    some (.go ((addI .i64 s2.1 1), s2.2))
  )
 ) else (
   some (.out (.go s2.2))
 )
noncomputable def gt.loop1 (x0 : List Tc) (s1 : Int × (List (Int × Ta)) × Int × (List (Td × Th)) × (List (Tb × Tf)) × (List (Int × Tj)) × Te) : Option (Fl (Int × (List (Int × Ta)) × Int × (List (Td × Th)) × (List (Tb × Tf)) × (List (Int × Tj)) × Te) (Fl ((List (Int × Ta)) × Int × (List (Td × Th)) × (List (Tb × Tf)) × (List (Int × Tj)) × Te) Bool)) :=
 bif (pickB (ltI s1.1 (lenL x0)) (ltI s1.1 80) false) then (
  need (InB s1.1 (lenL x0)) <|
  ((gax (nthI x0 s1.1))).bind fun r3 =>
  ((gl (Tn.mk (Tq.mk s1.2.1 s1.2.2.1) s1.2.2.2.1 s1.2.2.2.2.1 s1.2.2.2.2.2.1) r3)).bind fun r4 =>
  ((gaC r3)).bind fun r5 =>
  ((gaE s1.2.2.2.2.2.2 r5)).bind fun r6 =>
  need (Under (pickB (neI r4.1 r6.2.1) true (neI r4.2.1 r6.2.2)) false ((gK r4.2.2 r6.1).isSome = true)) <|
  bif (pickB (pickB (neI r4.1 r6.2.1) true (neI r4.2.1 r6.2.2)) true (neI ((gK r4.2.2 r6.1).getD dflt) 0)) then (
   some (.out (.out false))
  ) else (
    ((gH r4.2.2 (Td.mk r3.fOf r3.ff))).bind fun r7 =>
    ((gk r6.1 r3.fOf r3.ff)).bind fun r8 =>
    bif (neB r7.2 (leqI 0 r8)) then (
     some (.out (.out false))
    ) else (
      ((gj r4.2.2 (Td.mk r3.fOf r3.ff))).bind fun r9 =>
      ((loopF (gt.loop2 r3 r6 r9) (0, 0)).bind fun f => flC f fun (v2 : Int) =>
        bif (neI v2 (lenL r9)) then (
         some (.out (.out false))
        ) else (
          some (.go ((addI .i64 s1.1 1), r4.2.2.fe.fg, r4.2.2.fe.fh, r4.2.2.fa, r4.2.2.fd, r4.2.2.fj, r6.1))
        )
      )
    )
  )
 ) else (
   some (.out (.go (s1.2.1, s1.2.2.1, s1.2.2.2.1, s1.2.2.2.2.1, s1.2.2.2.2.2.1, s1.2.2.2.2.2.2)))
 )
noncomputable def gt (x0 : List Tc) : Option Bool :=
 (gau).bind fun r1 =>
 bif (notB r1) then (
  some false
 ) else (
   (gam).bind fun r2 =>
   ((loopF (gt.loop1 x0) (0, r2.fe.fg, r2.fe.fh, r2.fa, r2.fd, r2.fj, (Te.mk (Tl.mk [] 0) [] []))).bind fun f => flC f fun (_v1 : (List (Int × Ta)) × Int × (List (Td × Th)) × (List (Tb × Tf)) × (List (Int × Tj)) × Te) =>
     some true
   )
 )
end Go.Proofs
end
section
namespace Go.Proofs
open Go.Ab
@[simp] def gL.m (x0 : Tn) (_x1 : Int) : List AObj := [.blk [.ptr 1 0, .mp 3, .mp 4, .mp 5], .blk [.mp 2, .lit (.int .i64 x0.fe.fh)], .mapo (encM (kI .i64) (vA Ta.enc) x0.fe.fg), .mapo (encM (vA Td.enc) (vA Th.enc) x0.fa), .mapo (encM (vA Tb.enc) (vA Tf.enc) x0.fd), .mapo (encM (kI .u32) (vA Tj.enc) x0.fj)]
@[simp] def gL.out (_x0 : Tn) (_x1 : Int) (r : Int) : Out := { av := .lit (.int .i64 r), M := none }
set_option maxHeartbeats 4000000 in
set_option maxRecDepth 100000 in
theorem gL.can (x0 : Tn) (x1 : Int) (r : Int) (hr : gL x0 x1 = some r) : CallOk Tryz.prog 89 [.ptr 0 0, .lit (.int .i64 x1)] (gL.m x0 x1) (gL.out x0 x1 r) := by
 unfold gL at hr;obtain ⟨r1, h1, hr⟩ := Lc (show (gaD x0 x1).bind (fun r1 => some r1) = some r from hr);obtain rfl := La hr;exact gaD.can x0 x1 _ h1
@[simp] noncomputable def gL.S : Sp
  | [.ptr i0 0, .lit (.int .i64 x1)], M => (rdB M i0).bind fun c0 => (rdP c0 0).bind fun i1 => (rdB M i1).bind fun c1 => (rdM c1 0).bind fun i2 => (rdE M i2).bind fun c2 => (rdM c0 1).bind fun i3 => (rdE M i3).bind fun c3 => (rdM c0 2).bind fun i4 => (rdE M i4).bind fun c4 => (rdM c0 3).bind fun i5 => (rdE M i5).bind fun c5 => (fun (y0 : Tn) => some { av := .lit (.int .i64 ((gL y0 x1).getD dflt)), M := none, obl := c0 = Tn.enc y0 i1 i3 i4 i5 ∧ c1 = Tq.enc (y0.fe) i2 ∧ c2 = encM (kI .i64) (vA Ta.enc) (y0.fe.fg) ∧ c3 = encM (vA Td.enc) (vA Th.enc) (y0.fa) ∧ c4 = encM (vA Tb.enc) (vA Tf.enc) (y0.fd) ∧ c5 = encM (kI .u32) (vA Tj.enc) (y0.fj) ∧ (gL y0 x1).isSome = true ∧ i0 ≠ i1 ∧ i0 ≠ i2 ∧ i0 ≠ i3 ∧ i0 ≠ i4 ∧ i0 ≠ i5 ∧ i1 ≠ i2 ∧ i1 ≠ i3 ∧ i1 ≠ i4 ∧ i1 ≠ i5 ∧ i2 ≠ i3 ∧ i2 ≠ i4 ∧ i2 ≠ i5 ∧ i3 ≠ i4 ∧ i3 ≠ i5 ∧ i4 ≠ i5 }) (Tn.dec c0 (Tq.dec c1 (decM dkI (dvA Ta.dec) c2)) (decM (dvA Td.dec) (dvA Th.dec) c3) (decM (dvA Tb.dec) (dvA Tf.dec) c4) (decM dkI (dvA Tj.dec) c5))
  | _, _ => none
set_option maxHeartbeats 1000000 in
theorem gL.ok : SpecOk Tryz.prog 89 gL.S := by
 intro l M out h;unfold gL.S at h;split at h
 ·rename_i i0 x1;obtain ⟨c0, hM0, h⟩ := bB h;obtain ⟨i1, he1, h⟩ := bP h;obtain ⟨c1, hM1, h⟩ := bB h;obtain ⟨i2, he2, h⟩ := bM h;obtain ⟨c2, hM2, h⟩ := bE h;obtain ⟨i3, he3, h⟩ := bM h;obtain ⟨c3, hM3, h⟩ := bE h;obtain ⟨i4, he4, h⟩ := bM h;obtain ⟨c4, hM4, h⟩ := bE h;obtain ⟨i5, he5, h⟩ := bM h;obtain ⟨c5, hM5, h⟩ := bE h
  try dsimp only at h
  cases h;refine callOk_of fun ho => ?_;obtain ⟨oc0, oc1, oc2, oc3, oc4, oc5, hs, hne0, hne1, hne2, hne3, hne4, hne5, hne6, hne7, hne8, hne9, hne10, hne11, hne12, hne13, hne14⟩ := ho;generalize (Tn.dec c0 (Tq.dec c1 (decM dkI (dvA Ta.dec) c2)) (decM (dvA Td.dec) (dvA Th.dec) c3) (decM (dvA Tb.dec) (dvA Tf.dec) c4) (decM dkI (dvA Tj.dec) c5)) = y0 at *
  subst oc0;subst oc1;subst oc2;subst oc3;subst oc4;subst oc5;obtain ⟨r, hr⟩ := so1 hs;simp only [hr, gd1];have q := Lf (M := M) [i0, i1, i2, i3, i4, i5] (gL.can y0 x1 r hr) (by simp [hne0, hne1, hne2, hne3, hne4, hne5, hne6, hne7, hne8, hne9, hne10, hne11, hne12, hne13, hne14]) rfl (ix (by simp [hM0, into]) (ix (by simp [hM1, into]) (ix (by simp [hM2]) (ix (by simp [hM3]) (ix (by simp [hM4]) (ix (by simp [hM5]) ixn))))));exact callOk_conv q trivial (by simp [into]) (by simp [frameOut, into]) (by simp only [frameOut, gL.out, Option.getD_some, Option.getD_none]; simp [into, hM0, hM1, hM2, hM3, hM4, hM5, set_same])
 ·cases h
end Go.Proofs
end
section
namespace Go.Proofs
open Go.Ab
@[simp] def gad.m (x0 : Tq) (_x1 : Tl) (_x2 : Int) : List AObj := [.blk [.mp 1, .lit (.int .i64 x0.fh)], .mapo (encM (kI .i64) (vA Ta.enc) x0.fg)]
@[simp] def gad.out (_x0 : Tq) (_x1 : Tl) (_x2 : Int) (r : Int) : Out := { av := .lit (.int .i64 r), M := none }
def gad.fin (x0 : Tq) (x1 : Tl) (x2 : Int) (r : Int) (σ : St) : Prop := finK (gad.out x0 x1 x2 r) (gad.m x0 x1 x2) σ.M (resA Tryz.ty σ.A σ.M Tryz.f55.results.toList)
set_option maxHeartbeats 4000000 in
set_option maxRecDepth 100000 in
theorem gad.can (x0 : Tq) (x1 : Tl) (x2 : Int) (r : Int) (hr : gad x0 x1 x2 = some r) : CallOk Tryz.prog 55 [.ptr 0 0, .agg [.sl (x1.fL.map Ta.enc) .no, .lit (.int .i64 x1.fh)], .lit (.int .i64 x2)] (gad.m x0 x1 x2) (gad.out x0 x1 x2 r) := by
 unfold gad at hr;have hΓ := (gamL_cons gE.ok (gamL_cons gZ.ok (gamL_cons gaa.ok (gamL_cons gN.ok (gamL_cons gQ.ok (gamL_cons gak.ok (gamL_cons gY.ok (gamL_nil))))))) : GamOk Tryz.prog _);refine cw Tryz.func55 rfl (by kernel_rfl) rfl rfl (by simp) fun _ _ _ => ?_;refine tq hΓ [4] [1] ?_;obtain ⟨r1, h17, hr⟩ := Lc hr;refine tq hΓ [7, 8] [] ?_ (by simp [h17]; exact rr);obtain ⟨r2, h18, hr⟩ := Lc hr;refine tq hΓ [9, 10] [2] ?_ (by simp [h18]; exact rr);obtain ⟨r3, h19, hr⟩ := Lc hr;obtain ⟨r4, h20, hr⟩ := Lc hr;refine td hΓ [11, 12] [] [] [(false, []), (false, []), (false, []), (false, []), (false, []), (false, [])] (by simp [h19, h20]; exact rr) ?_;refine AWp.seq ?_;obtain ⟨r5, h21, hr⟩ := Lc hr;refine td hΓ [61] [12, 9, 10, 7, 8] [] [(false, []), (false, []), (false, []), (false, []), (false, []), (false, []), (false, []), (false, [40]), (false, [40]), (false, [40]), (false, []), (false, []), (false, [45]), (false, [45]), (false, [45]), (false, []), (false, []), (false, [50]), (false, [50]), (false, [50]), (false, [50]), (false, [50]), (false, []), (false, []), (false, [57]), (false, [57]), (false, [57]), (false, [])] (by simp [h21]; exact rr) ?_;refine AWp.cnd hr (by simp) (fun h22 hr => ?_) (fun h22 hr => ?_)
 ·refine tq hΓ [6] [61, 11, 4, 0] ?_ (by simp [h22]; exact rr);obtain rfl := La hr;exact AWp.ret (Lb (by simp))
 ·refine AWp.skip ?_;refine AWp.seq ?_;refine tq hΓ [62, 63, 64] [61] ?_ (by simp [h22]; exact rr);refine AWp.loopE (fun (s1 : Int) (γ1 : Unit) => ⟨[⟨62, none, .sl (r3.map eTxt) .no⟩, ⟨63, none, .n (lenL r3)⟩, ⟨64, none, .n s1⟩, ⟨11, none, .sl (r3.map eTxt) .no⟩, ⟨4, none, .ptr 2 0⟩, ⟨0, none, .ptr 0 0⟩], [.blk [.mp 1, .n x0.fh], .mapo (encM (kI .i64) (vA Ta.enc) x0.fg), .blk x1.enc, .blk [.n r1.1.fN, .s r1.1.fo, .s r1.1.fk], .blk [.n r2.1.fN, .s r2.1.fo, .s r2.1.fk]]⟩) (fun (v1 : Unit) (γ1a : Unit) => ⟨[], [.blk [.mp 1, .n x0.fh], .mapo (encM (kI .i64) (vA Ta.enc) x0.fg), .blk x1.enc, .blk [.n r1.1.fN, .s r1.1.fo, .s r1.1.fk], .blk [.n r2.1.fN, .s r2.1.fo, .s r2.1.fk]]⟩) (gad.fin x0 x1 x2) hr () 5 (by simp) (fun s1 f γ1 hr => ?_) (fun v1 γ1a σ1 m1 hr hc => ?_) (fun _ h => h)
  ·unfold gad.loop1 at hr;refine tq hΓ [65] [] ?_ (by simp; exact rr);refine AWp.seq ?_;refine AWp.cnd hr (by simp) (fun h23 hr => ?_) (fun h23 hr => ?_)
   ·refine AWp.skip ?_;refine AWp.seq ?_;refine AWp.block ?_;obtain ⟨h24, hr⟩ := Ld hr;refine tq hΓ [13, 14] [65] ?_ (by simp [h23, h24]; exact rr);obtain ⟨r6, h25, hr⟩ := Lc hr;obtain ⟨r7, h26, hr⟩ := Lc hr;refine td hΓ [15, 16] [] [] [(false, []), (false, []), (false, []), (false, []), (false, []), (false, []), (false, []), (false, [])] (by simp [h25, h26]; exact rr) ?_;refine AWp.seq ?_;obtain ⟨h27, hr⟩ := Ld hr;refine tq hΓ [102] [13, 14] ?_ (by simp [h27]; exact rr);refine AWp.cnd hr (by simp) (fun h28 hr => ?_) (fun h28 hr => ?_)
    ·refine tq hΓ [6] [102, 15, 16, 62, 63, 64, 11, 4, 0] ?_ (by simp [h28]; exact rr);refine AWp.ret ?_;obtain rfl := La hr;refine Lr ?_;refine Lb ?_;simp
    ·refine AWp.skip ?_;refine tq hΓ [104, 105] [102] ?_ (by simp [h28]; exact rr);refine AWp.loopE (fun (s2 : Int) (γ2 : Unit) => ⟨[⟨104, none, .n (lenL r7)⟩, ⟨105, none, .n s2⟩, ⟨15, none, .sl (r6.map Ta.enc) .no⟩, ⟨16, none, .sl (r7.map Ta.enc) .no⟩, ⟨62, none, .sl (r3.map eTxt) .no⟩, ⟨63, none, .n (lenL r3)⟩, ⟨64, none, .n s1⟩, ⟨11, none, .sl (r3.map eTxt) .no⟩, ⟨4, none, .ptr 2 0⟩, ⟨0, none, .ptr 0 0⟩], [.blk [.mp 1, .n x0.fh], .mapo (encM (kI .i64) (vA Ta.enc) x0.fg), .blk x1.enc, .blk [.n r1.1.fN, .s r1.1.fo, .s r1.1.fk], .blk [.n r2.1.fN, .s r2.1.fo, .s r2.1.fk]]⟩) (fun (v2 : Unit) (γ2a : Unit) => ⟨[⟨62, none, .sl (r3.map eTxt) .no⟩, ⟨63, none, .n (lenL r3)⟩, ⟨64, none, .n s1⟩, ⟨11, none, .sl (r3.map eTxt) .no⟩, ⟨4, none, .ptr 2 0⟩, ⟨0, none, .ptr 0 0⟩], [.blk [.mp 1, .n x0.fh], .mapo (encM (kI .i64) (vA Ta.enc) x0.fg), .blk x1.enc, .blk [.n r1.1.fN, .s r1.1.fo, .s r1.1.fk], .blk [.n r2.1.fN, .s r2.1.fo, .s r2.1.fk]]⟩) (QRr (gad.fin x0 x1 x2)) hr () 5 (by simp) (fun s2 f γ2 hr => ?_) (fun v2 γ2a σ1 m1 hr hc => ?_) (fun _ h => QRr_ret h)
     ·unfold gad.loop2 at hr;refine tq hΓ [106] [] ?_ (by simp; exact rr);refine AWp.seq ?_;refine AWp.cnd hr (by simp) (fun h29 hr => ?_) (fun h29 hr => ?_)
      ·refine AWp.skip ?_;refine AWp.seq ?_;refine AWp.block ?_;refine tq hΓ [17] [106] ?_ (by simp [h29]; exact rr);obtain ⟨h30, hr⟩ := Ld hr;obtain ⟨h31, hr⟩ := Ld hr;refine td hΓ [116] [17] [] [(false, []), (false, []), (false, []), (false, []), (false, []), (false, []), (false, []), (false, []), (false, [])] (by simp [h30, h31]; exact rr) ?_;refine AWp.cnd hr (by simp) (fun h32 hr => ?_) (fun h32 hr => ?_)
       ·refine tq hΓ [6] [116, 104, 105, 15, 16, 62, 63, 64, 11, 4, 0] ?_ (by simp [h32]; exact rr);refine AWp.ret ?_;obtain rfl := La hr;refine Lr ?_;refine ⟨_, rfl, ?_⟩;refine Lb ?_;simp
       ·refine AWp.skip ?_;refine tl hΓ [105] [116] ?_ (by simp [h32]; exact rr);obtain rfl := La hr;exact Lj () 5 (by first | (simp; done) | simp [h17, h18, h19, h20, h21, h22, h23, h24, h25, h26, h27, h28, h29, h30, h31, h32])
      ·refine AWp.exit ?_;obtain rfl := La hr;exact Ll () 5 (by first | (simp; done) | simp [h17, h18, h19, h20, h21, h22, h23, h24, h25, h26, h27, h28, h29])
     ·refine AWp.conv hc ?_;refine tl hΓ [64] [] ?_ (by simp; exact rr);obtain rfl := La hr;exact Lj () 5 (by first | (simp; done) | simp [h17, h18, h19, h20, h21, h22, h23, h24, h25, h26, h27, h28])
   ·refine AWp.exit ?_;obtain rfl := La hr;exact Ll () 5 (by first | (simp; done) | simp [h17, h18, h19, h20, h21, h22, h23])
  ·refine AWp.conv hc ?_;refine tq hΓ [6] [] ?_ (by simp; exact rr);obtain rfl := La hr;exact AWp.ret (Lb (by simp))
@[simp] noncomputable def gad.S : Sp
  | [.ptr i0 0, .agg e1, .lit (.int .i64 x2)], M => (rdB M i0).bind fun c0 => (rdM c0 0).bind fun i1 => (rdE M i1).bind fun c1 => (fun (y0 : Tq) => (fun (y1 : Tl) => some { av := .lit (.int .i64 ((gad y0 y1 x2).getD dflt)), M := none, obl := WeakL e1 (Tl.enc y1) ∧ c0 = Tq.enc y0 i1 ∧ c1 = encM (kI .i64) (vA Ta.enc) (y0.fg) ∧ (gad y0 y1 x2).isSome = true ∧ i0 ≠ i1 }) (Tl.dec e1)) (Tq.dec c0 (decM dkI (dvA Ta.dec) c1))
  | _, _ => none
set_option maxHeartbeats 1000000 in
theorem gad.ok : SpecOk Tryz.prog 55 gad.S := by
 intro l M out h;unfold gad.S at h;split at h
 ·rename_i i0 e1 x2;obtain ⟨c0, hM0, h⟩ := bB h;obtain ⟨i1, he1, h⟩ := bM h;obtain ⟨c1, hM1, h⟩ := bE h
  try dsimp only at h
  cases h;refine callOk_of fun ho => ?_;obtain ⟨ox1, oc0, oc1, hs, hne0⟩ := ho;generalize (Tq.dec c0 (decM dkI (dvA Ta.dec) c1)) = y0 at *
  generalize (Tl.dec e1) = x1 at *
  subst oc0;subst oc1;obtain ⟨r, hr⟩ := so1 hs;simp only [hr, gd1];have q := Lf (M := M) [i0, i1] (gad.can y0 x1 x2 r hr) (by simp [hne0]) rfl (ix (by simp [hM0, into]) (ix (by simp [hM1]) ixn));exact callOk_conv q trivial (by simp [into]; exact ox1) (by simp [frameOut, into]) (by simp only [frameOut, gad.out, Option.getD_some, Option.getD_none]; simp [into, hM0, hM1, set_same])
 ·cases h
end Go.Proofs
end
