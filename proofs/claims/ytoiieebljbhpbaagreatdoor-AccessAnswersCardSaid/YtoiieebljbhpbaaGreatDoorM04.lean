/- That these functions compute what their plain functions do. No condition. -/
import Derived.Test.YtoiieebljbhpbaaGreatDoorM16
import Derived.Test.YtoiieebljbhpbaaGreatDoorTy
import Derived.Test.YtoiieebljbhpbaaGreatDoorM07
import Derived.Test.YtoiieebljbhpbaaGreatDoorM10
import Derived.Test.YtoiieebljbhpbaaGreatDoorHa
import Derived.Laws.Bits64
import Derived.Laws.BitsAllLaws
import Derived.Test.YtoiieebljbhpbaaGreatDoorHj
import Derived.Sort.Walk0
import Derived.Test.YtoiieebljbhpbaaGreatDoorTs
import Derived.Test.YtoiieebljbhpbaaGreatDoorM06
import Derived.Test.YtoiieebljbhpbaaGreatDoorM11
import Derived.Test.YtoiieebljbhpbaaGreatDoorM14
section
namespace Go.Proofs
open Go.Ab
@[simp] def gH.m (x0 : Th) (_x1 : Int) : List AObj := [.blk [.ptr 1 0, .mp 3, .mp 4, .mp 5], .blk [.mp 2, .lit (.int .i64 x0.fb.fj)], .mapo (encM (kI .i64) (vA Ta.enc) x0.fb.fe), .mapo (encM (vA Tc.enc) (vA Te.enc) x0.fc), .mapo (encM (vA Tb.enc) (vA Tg.enc) x0.ff), .mapo (encM (kI .u32) (vA Tf.enc) x0.fg)]
@[simp] def gH.out (_x0 : Th) (_x1 : Int) (r : Int) : Out := { av := .lit (.int .i64 r), M := none }
set_option maxHeartbeats 4000000 in
set_option maxRecDepth 100000 in
theorem gH.can (x0 : Th) (x1 : Int) (r : Int) (hr : gH x0 x1 = some r) : CallOk Tryz.prog 89 [.ptr 0 0, .lit (.int .i64 x1)] (gH.m x0 x1) (gH.out x0 x1 r) := by
 unfold gH at hr
 obtain ⟨r1, h1, hr⟩ := Ld (show (gal x0 x1).bind (fun r1 => some r1) = some r from hr)
 obtain rfl := La hr
 exact gal.can x0 x1 _ h1

@[simp] noncomputable def gH.S : Sp
  | [.ptr i0 0, .lit (.int .i64 x1)], M => (rdB M i0).bind fun c0 => (rdP c0 0).bind fun i1 => (rdB M i1).bind fun c1 => (rdM c1 0).bind fun i2 => (rdE M i2).bind fun c2 => (rdM c0 1).bind fun i3 => (rdE M i3).bind fun c3 => (rdM c0 2).bind fun i4 => (rdE M i4).bind fun c4 => (rdM c0 3).bind fun i5 => (rdE M i5).bind fun c5 => (fun (y0 : Th) => some { av := .lit (.int .i64 ((gH y0 x1).getD dflt)), M := none, obl := c0 = Th.enc y0 i1 i3 i4 i5 ∧ c1 = Tj.enc (y0.fb) i2 ∧ c2 = encM (kI .i64) (vA Ta.enc) (y0.fb.fe) ∧ c3 = encM (vA Tc.enc) (vA Te.enc) (y0.fc) ∧ c4 = encM (vA Tb.enc) (vA Tg.enc) (y0.ff) ∧ c5 = encM (kI .u32) (vA Tf.enc) (y0.fg) ∧ (gH y0 x1).isSome = true ∧ i0 ≠ i1 ∧ i0 ≠ i2 ∧ i0 ≠ i3 ∧ i0 ≠ i4 ∧ i0 ≠ i5 ∧ i1 ≠ i2 ∧ i1 ≠ i3 ∧ i1 ≠ i4 ∧ i1 ≠ i5 ∧ i2 ≠ i3 ∧ i2 ≠ i4 ∧ i2 ≠ i5 ∧ i3 ≠ i4 ∧ i3 ≠ i5 ∧ i4 ≠ i5 }) (Th.dec c0 (Tj.dec c1 (decM dkI (dvA Ta.dec) c2)) (decM (dvA Tc.dec) (dvA Te.dec) c3) (decM (dvA Tb.dec) (dvA Tg.dec) c4) (decM dkI (dvA Tf.dec) c5))
  | _, _ => none

set_option maxHeartbeats 1000000 in
theorem gH.ok : SpecOk Tryz.prog 89 gH.S := by
 intro l M out h
 unfold gH.S at h
 split at h
 ·rename_i i0 x1
  obtain ⟨c0, hM0, h⟩ := bB h
  obtain ⟨i1, he1, h⟩ := bP h
  obtain ⟨c1, hM1, h⟩ := bB h
  obtain ⟨i2, he2, h⟩ := bM h
  obtain ⟨c2, hM2, h⟩ := bE h
  obtain ⟨i3, he3, h⟩ := bM h
  obtain ⟨c3, hM3, h⟩ := bE h
  obtain ⟨i4, he4, h⟩ := bM h
  obtain ⟨c4, hM4, h⟩ := bE h
  obtain ⟨i5, he5, h⟩ := bM h
  obtain ⟨c5, hM5, h⟩ := bE h
  try dsimp only at h
  cases h
  refine callOk_of fun ho => ?_
  obtain ⟨oc0, oc1, oc2, oc3, oc4, oc5, hs, hne0, hne1, hne2, hne3, hne4, hne5, hne6, hne7, hne8, hne9, hne10, hne11, hne12, hne13, hne14⟩ := ho
  generalize (Th.dec c0 (Tj.dec c1 (decM dkI (dvA Ta.dec) c2)) (decM (dvA Tc.dec) (dvA Te.dec) c3) (decM (dvA Tb.dec) (dvA Tg.dec) c4) (decM dkI (dvA Tf.dec) c5)) = y0 at *
  subst oc0
  subst oc1
  subst oc2
  subst oc3
  subst oc4
  subst oc5
  obtain ⟨r, hr⟩ := so1 hs
  simp only [hr, gd1]
  have q := Lh (M := M) [i0, i1, i2, i3, i4, i5] (gH.can y0 x1 r hr) (by simp [hne0, hne1, hne2, hne3, hne4, hne5, hne6, hne7, hne8, hne9, hne10, hne11, hne12, hne13, hne14]) rfl (ix (by simp [hM0, into]) (ix (by simp [hM1, into]) (ix (by simp [hM2]) (ix (by simp [hM3]) (ix (by simp [hM4]) (ix (by simp [hM5]) ixn))))))
  exact callOk_conv q trivial (by simp [into]) (by simp [frameOut, into]) (by simp only [frameOut, gH.out, Option.getD_some, Option.getD_none]; simp [into, hM0, hM1, hM2, hM3, hM4, hM5, set_same])
 ·cases h
end Go.Proofs
end
section
namespace Go.Proofs
open Go.Ab
@[simp] def gaj.out (_x0 : ByteArray) (_x1 : Int) (r : ByteArray) : Out := { av := .lit (.string r), M := none }
set_option maxHeartbeats 4000000 in
set_option maxRecDepth 100000 in
theorem gaj.can (x0 : ByteArray) (x1 : Int) (r : ByteArray) (hr : gaj x0 x1 = some r) : CallOk Tryz.prog 40 [.lit (.string x0), .lit (.int .i64 x1)] [] (gaj.out x0 x1 r) := by
 unfold gaj at hr
 have hΓ := gamL_nil (P := Tryz.prog)
 refine cw Tryz.func40 rfl (by kernel_rfl) rfl rfl (by simp) fun _ _ _ => ?_
 refine tq hΓ [] [] ?_
 refine AWp.seq ?_
 refine tq hΓ [8] [] ?_
 refine AWp.cnd hr (by simp) (fun h3 hr => ?_) (fun h3 hr => ?_)
 ·obtain ⟨h4, hr⟩ := Lg hr
  refine tq hΓ [4] [8, 0, 1] ?_ (by simp [h3, h4]; exact rr)
  obtain rfl := La hr
  exact AWp.ret (Le (by simp))
 ·refine AWp.skip ?_
  refine tq hΓ [4] [8, 0, 1] ?_ (by simp [h3]; exact rr)
  obtain rfl := La hr
  exact AWp.ret (Le (by simp))

@[simp] noncomputable def gaj.S : Sp
  | [.lit (.string x0), .lit (.int .i64 x1)], _ => some { av := .lit (.string ((gaj x0 x1).getD dflt)), M := none, obl := (gaj x0 x1).isSome = true }
  | _, _ => none

set_option maxHeartbeats 1000000 in
theorem gaj.ok : SpecOk Tryz.prog 40 gaj.S := by
 intro l M out h
 unfold gaj.S at h
 split at h
 ·rename_i x0 x1
  cases h
  refine callOk_of fun ho => ?_
  have hs := ho
  obtain ⟨r, hr⟩ := so1 hs
  simp only [hr, gd1]
  have q := Lh (M := M) [] (gaj.can x0 x1 r hr) (by simp) rfl ixn
  exact callOk_conv q trivial (by simp) (by simp [frameOut]) (by simp [frameOut])
 ·cases h
end Go.Proofs
end
section
namespace Go.Proofs
open Go.Ab
@[simp] def gZ.out (_x0 : Td) (r : Td) : Out := { av := .agg [.lit (.int .i64 r.fk), .lit (.string r.fm), .lit (.string r.fp), .lit (.int .i64 r.fd), .lit (.int .i64 r.fOf), .lit (.int .i64 r.fh), .lit (.int .i64 r.fo), .lit (.bool r.fOn), .lit (.bool r.fq), .sl (r.fa.map (eNum .u32)) .no], M := none }
def gZ.fin (x0 : Td) (r : Td) (σ : St) : Prop := finK (gZ.out x0 r) [] σ.M (resA Tryz.ty σ.A σ.M Tryz.f12.results.toList)
set_option maxHeartbeats 4000000 in
set_option maxRecDepth 100000 in
theorem gZ.can (x0 : Td) (r : Td) (hr : gZ x0 = some r) : CallOk Tryz.prog 12 [.agg [.lit (.int .i64 x0.fk), .lit (.string x0.fm), .lit (.string x0.fp), .lit (.int .i64 x0.fd), .lit (.int .i64 x0.fOf), .lit (.int .i64 x0.fh), .lit (.int .i64 x0.fo), .lit (.bool x0.fOn), .lit (.bool x0.fq), .sl (x0.fa.map (eNum .u32)) .no]] [] (gZ.out x0 r) := by
 unfold gZ at hr
 have hΓ := (gamL_cons gaj.ok (gamL_nil) : GamOk Tryz.prog _)
 refine cw Tryz.func12 rfl (by kernel_rfl) rfl rfl (by simp) fun _ _ _ => ?_
 refine tq hΓ [1, 2] [0] ?_
 obtain ⟨r1, h5, hr⟩ := Ld hr
 obtain ⟨r2, h6, hr⟩ := Ld hr
 refine td hΓ [] [] [] [(false, []), (false, []), (false, []), (false, []), (false, []), (false, []), (false, []), (true, []), (false, []), (true, [])] (by simp [h5, h6]; exact rr) ?_
 refine AWp.meetF (fun (v1 : Td) (γ1 : Unit) => ⟨[⟨1, none, .ptr 0 0⟩, ⟨2, none, .ptr 1 0⟩], [.blk v1.enc, .blk [.n 0, .s ⟨#[]⟩, .s ⟨#[]⟩, .n 0, .n 0, .n 0, .n 0, .b false, .b false, .sl [] .full]]⟩) (gZ.fin x0) hr (fun f hr => ?_) (fun v1 γ1 hr => ?_) (fun _ h => h)
 ·refine tq hΓ [14] [] ?_ (by simp; exact rr)
  refine AWp.cnd hr (by simp) (fun h7 hr => ?_) (fun h7 hr => ?_)
  ·obtain ⟨h8, hr⟩ := Lg hr
   refine tl hΓ [] [14] ?_ (by simp [h7, h8]; exact rr)
   obtain rfl := La hr
   exact meet_go () 2 (by first | (simp; done) | simp [h5, h6, h7, h8])
  ·refine AWp.skip ?_
   obtain rfl := La hr
   exact meet_go () 2 (by first | (simp; done) | simp [h5, h6, h7])
 ·refine tq hΓ [] [1] ?_ (by simp; exact rr)
  obtain rfl := La hr
  exact AWp.ret (Le (by simp))

@[simp] noncomputable def gZ.S : Sp
  | [.agg e0], _ => (fun (y0 : Td) => (fun (r : Td) => some { av := .agg [.lit (.int .i64 (r.fk)), .lit (.string (r.fm)), .lit (.string (r.fp)), .lit (.int .i64 (r.fd)), .lit (.int .i64 (r.fOf)), .lit (.int .i64 (r.fh)), .lit (.int .i64 (r.fo)), .lit (.bool (r.fOn)), .lit (.bool (r.fq)), .sl ((r.fa).map (eNum .u32)) .no], M := none, obl := WeakL e0 (Td.enc y0) ∧ (gZ y0).isSome = true }) ((gZ y0).getD dflt)) (Td.dec e0)
  | _, _ => none

set_option maxHeartbeats 1000000 in
theorem gZ.ok : SpecOk Tryz.prog 12 gZ.S := by
 intro l M out h
 unfold gZ.S at h
 split at h
 ·rename_i e0
  try dsimp only at h
  cases h
  refine callOk_of fun ho => ?_
  obtain ⟨ox0, hs⟩ := ho
  generalize (Td.dec e0) = x0 at *
  obtain ⟨r, hr⟩ := so1 hs
  simp only [hr, gd1]
  have q := Lh (M := M) [] (gZ.can x0 r hr) (by simp) rfl ixn
  exact callOk_conv q trivial (by simp; exact ox0) (by simp [frameOut]) (by simp [frameOut])
 ·cases h

end Go.Proofs
end
section
namespace Go.Proofs
open Go.Ab
end Go.Proofs
end
section
namespace Go.Proofs
open Go.Ab

theorem nil_ofB : (⟨#[]⟩ : ByteArray) = ofB [] := rfl
theorem eqS_ofB (l : List UInt8) : eqS (ofB l) ⟨#[]⟩ = l.isEmpty := by
 rw [eqS_b, nil_ofB, ofB_b, ofB_b]
 cases l <;> simp
end Go.Proofs
end
section
namespace Go.Proofs
open Go.Ab Go.Lib
noncomputable def foldB (l : List UInt8) : List UInt8 := ((runesL l).map lowerR).flatMap encodeRune
theorem foldB_d (s : ByteArray) : bytesOf (foldS s) = foldB (bytesOf s) := by
 rw [foldS_b]; rfl
theorem eqF (a b : ByteArray) : eqS (foldS a) (foldS b) = decide (foldB (bytesOf a) = foldB (bytesOf b)) := by rw [eqS_b, foldB_d, foldB_d]
theorem scan_b (s : ByteArray) : scan s 0 = runesL (bytesOf s) := rfl

/-! ### Awake -/
abbrev shall : ByteArray := ⟨#[104, 97, 108, 108]⟩
theorem g_hall : goodB (scan shall 0) = true := by rw [scan_b]; decide +kernel
/-! ### Is -/
end Go.Proofs
end
section
namespace Go.Proofs
open Go.Ab
noncomputable def gax.loop2 (r3 : Td) (r6 : Tl × Int × Int) (r9 : List Int) (s2 : Int × Int) : Option (Fl (Int × Int) (Fl Int (Fl (Int × (List (Int × Ta)) × Int × (List (Tc × Te)) × (List (Tb × Tg)) × (List (Int × Tf)) × Tl) (Fl ((List (Int × Ta)) × Int × (List (Tc × Te)) × (List (Tb × Tg)) × (List (Int × Tf)) × Tl) Bool)))) :=
 bif (ltI s2.1 (lenL r6.1.ff)) then (
  need (InB s2.1 (lenL r6.1.ff)) <|
  bif (pickB (eqI ((nthI r6.1.ff s2.1).fd) r3.fOf) (eqI ((nthI r6.1.ff s2.1).fN) r3.fh) false) then (
   need (Under (leqI (lenL r9) s2.2) false (InB s2.2 (lenL r9))) <|
   bif (pickB (leqI (lenL r9) s2.2) true (neI (nthI r9 s2.2) ((nthI r6.1.ff s2.1).fu))) then (
    some (.out (.out (.out (.out false))))
   ) else (
     some (.go ((addI .i64 s2.1 1), (addI .i64 s2.2 1)))
   )
  ) else (
    some (.go ((addI .i64 s2.1 1), s2.2))
  )
 ) else (
   some (.out (.go s2.2))
 )

noncomputable def gax.loop1 (x0 : List Td) (s1 : Int × (List (Int × Ta)) × Int × (List (Tc × Te)) × (List (Tb × Tg)) × (List (Int × Tf)) × Tl) : Option (Fl (Int × (List (Int × Ta)) × Int × (List (Tc × Te)) × (List (Tb × Tg)) × (List (Int × Tf)) × Tl) (Fl ((List (Int × Ta)) × Int × (List (Tc × Te)) × (List (Tb × Tg)) × (List (Int × Tf)) × Tl) Bool)) :=
 bif (pickB (ltI s1.1 (lenL x0)) (ltI s1.1 80) false) then (
  need (InB s1.1 (lenL x0)) <|
  ((gZ (nthI x0 s1.1))).bind fun r3 =>
  ((gf (Th.mk (Tj.mk s1.2.1 s1.2.2.1) s1.2.2.2.1 s1.2.2.2.2.1 s1.2.2.2.2.2.1) r3)).bind fun r4 =>
  ((gLaw07Told r3)).bind fun r5 =>
  ((gaK s1.2.2.2.2.2.2 r5)).bind fun r6 =>
  need (Under (pickB (neI r4.1 r6.2.1) true (neI r4.2.1 r6.2.2)) false ((gaz r4.2.2 r6.1).isSome = true)) <|
  bif (pickB (pickB (neI r4.1 r6.2.1) true (neI r4.2.1 r6.2.2)) true (neI ((gaz r4.2.2 r6.1).getD dflt) 0)) then (
   some (.out (.out false))
  ) else (
    ((gu r4.2.2 (Tc.mk r3.fOf r3.fh))).bind fun r7 =>
    ((gac r6.1 r3.fOf r3.fh)).bind fun r8 =>
    bif (neB r7.2 (leqI 0 r8)) then (
     some (.out (.out false))
    ) else (
      ((gk r4.2.2 (Tc.mk r3.fOf r3.fh))).bind fun r9 =>
      ((loopF (gax.loop2 r3 r6 r9) (0, 0)).bind fun f => flC f fun (v2 : Int) =>
        bif (neI v2 (lenL r9)) then (
         some (.out (.out false))
        ) else (
          some (.go ((addI .i64 s1.1 1), r4.2.2.fb.fe, r4.2.2.fb.fj, r4.2.2.fc, r4.2.2.ff, r4.2.2.fg, r6.1))
        )
      )
    )
  )
 ) else (
   some (.out (.go (s1.2.1, s1.2.2.1, s1.2.2.2.1, s1.2.2.2.2.1, s1.2.2.2.2.2.1, s1.2.2.2.2.2.2)))
 )

noncomputable def gax (x0 : List Td) : Option Bool :=
 (gU).bind fun r1 =>
 bif (notB r1) then (
  some false
 ) else (
   (gV).bind fun r2 =>
   ((loopF (gax.loop1 x0) (0, r2.fb.fe, r2.fb.fj, r2.fc, r2.ff, r2.fg, (Tl.mk (Tn.mk [] 0) [] []))).bind fun f => flC f fun (_v1 : (List (Int × Ta)) × Int × (List (Tc × Te)) × (List (Tb × Tg)) × (List (Int × Tf)) × Tl) =>
     some true
   )
 )
end Go.Proofs
end
