import Derived.Test.YtoiieebljbhpbaaGreatDoorTs
import Derived.Test.YtoiieebljbhpbaaGreatDoorM04
import Derived.Test.YtoiieebljbhpbaaGreatDoorM03
import Derived.Test.YtoiieebljbhpbaaGreatDoorM08
import Derived.Test.YtoiieebljbhpbaaGreatDoorM07
import Derived.Test.YtoiieebljbhpbaaGreatDoorTy
import Derived.Test.YtoiieebljbhpbaaGreatDoorM19
import Derived.Test.YtoiieebljbhpbaaGreatDoorHj
import Derived.Sort.Walk0
section
namespace Go.Proofs
open Go.Ab
noncomputable def gV.loop1 (x0 : Int) (s1 : Int × (List (Int × Ta)) × Int × (List (Td × Th)) × (List (Tb × Tf)) × (List (Int × Tj))) : Option (Fl (Int × (List (Int × Ta)) × Int × (List (Td × Th)) × (List (Tb × Tf)) × (List (Int × Tj))) (Fl ((List (Int × Ta)) × Int × (List (Td × Th)) × (List (Tb × Tf)) × (List (Int × Tj))) Tn)) :=
 bif (ltI s1.1 (minI (maxI x0 0) 6)) then (
  need (CatB ⟨#[112]⟩ (Utf8.encode (cvtI .i32 (addI .i64 97 s1.1)))) <|
  ((gl (Tn.mk (Tq.mk s1.2.1 s1.2.2.1) s1.2.2.2.1 s1.2.2.2.2.1 s1.2.2.2.2.2) (Tc.mk 1 ⟨#[104, 97, 108, 108]⟩ (catS ⟨#[112]⟩ (Utf8.encode (cvtI .i32 (addI .i64 97 s1.1)))) 0 0 0 0 false false []))).bind fun r2 =>
  ((gl r2.2.2 (Tc.mk 3 ⟨#[]⟩ ⟨#[]⟩ s1.1 0 0 0 false true [(cvtI .u32 (addI .i64 (mulI .i64 100 s1.1) 1)), (cvtI .u32 (addI .i64 (mulI .i64 100 s1.1) 2)), (cvtI .u32 (addI .i64 (mulI .i64 100 s1.1) 3))]))).bind fun r3 =>
  some (.go ((addI .i64 s1.1 1), r3.2.2.fe.fg, r3.2.2.fe.fh, r3.2.2.fa, r3.2.2.fd, r3.2.2.fj))
 ) else (
   some (.out (.go (s1.2.1, s1.2.2.1, s1.2.2.2.1, s1.2.2.2.2.1, s1.2.2.2.2.2)))
 )
noncomputable def gV (x0 : Int) : Option Tn :=
 (gam).bind fun r1 =>
 ((loopF (gV.loop1 x0) (0, r1.fe.fg, r1.fe.fh, r1.fa, r1.fd, r1.fj)).bind fun f => flC f fun (v1 : (List (Int × Ta)) × Int × (List (Td × Th)) × (List (Tb × Tf)) × (List (Int × Tj))) =>
   some (Tn.mk (Tq.mk v1.1 v1.2.1) v1.2.2.1 v1.2.2.2.1 v1.2.2.2.2)
 )
noncomputable def gau : Option Bool :=
 ((gV 2)).bind fun r1 =>
 need ((gZ r1.fe).isSome = true) <|
 bif (neI ((gZ r1.fe).getD dflt) 2) then (
  some false
 ) else (
   ((gl r1 (Tc.mk 5 ⟨#[]⟩ ⟨#[]⟩ 1 0 0 0 false false []))).bind fun r2 =>
   ((gy r2.2.2 2)).bind fun r3 =>
   ((gm r2.2.2)).bind fun r4 =>
   ((gl r2.2.2 (Tc.mk 2 ⟨#[]⟩ ⟨#[]⟩ 0 0 0 0 false false []))).bind fun r5 =>
   need (Under (pickB (pickB (pickB (eqI r2.2.1 0) r3.2 false) (pickB (pickB (eqI r3.1.fOf.fc 0) (eqI r3.1.fOf.ff 0) false) (eqI r3.1.fp 1) false) false) (eqI (lenL r4) 1) false) true ((gm r5.2.2).isSome = true)) <|
   some (pickB (pickB (pickB (pickB (eqI r2.2.1 0) r3.2 false) (pickB (pickB (eqI r3.1.fOf.fc 0) (eqI r3.1.fOf.ff 0) false) (eqI r3.1.fp 1) false) false) (eqI (lenL r4) 1) false) (eqI (lenL ((gm r5.2.2).getD dflt)) 0) false)
 )
noncomputable def gK.loop1 (x0 : Tn) (x1 : Te) (r2 : List Tb) (s1 : Int) : Option (Fl Int (Fl Unit Int)) :=
 bif (ltI s1 (lenL x1.fd)) then (
  need (InB s1 (lenL x1.fd)) <|
  ((gag x0 (Tb.mk ((nthI x1.fd s1).fu) (Td.mk ((nthI x1.fd s1).fc) ((nthI x1.fd s1).fN))))).bind fun r3 =>
  need (InB s1 (lenL r2)) <|
  bif (pickB (pickB (pickB (notB (pickB (eqI ((nthI r2 s1).fu) ((nthI x1.fd s1).fu)) (pickB (eqI ((nthI r2 s1).fOf.fc) ((nthI x1.fd s1).fc)) (eqI ((nthI r2 s1).fOf.ff) ((nthI x1.fd s1).fN)) false) false)) true (notB r3.2)) true (neI r3.1.fp ((nthI x1.fd s1).fp))) true (neB r3.1.fw ((nthI x1.fd s1).fw))) then (
   some (.out (.out (-1)))
  ) else (
    some (.go (addI .i64 s1 1))
  )
 ) else (
   some (.out (.go ()))
 )
noncomputable def gK.loop3 (x0 : Tn) (x1 : Te) (r4 : Th × Bool) (s2 : Int) (s3 : Int) : Option (Fl Int (Fl Unit (Fl Int (Fl Unit Int)))) :=
 bif (ltI s3 (lenL ((nthI x1.fa s2).fb))) then (
  need (InB s3 (lenL ((nthI x1.fa s2).fb))) <|
  ((gy x0 (nthI ((nthI x1.fa s2).fb) s3))).bind fun r5 =>
  need (InB s3 (lenL r4.1.fb)) <|
  bif (pickB (pickB (pickB (neI (nthI r4.1.fb s3) (nthI ((nthI x1.fa s2).fb) s3)) true (notB r5.2)) true (notB (pickB (eqI r5.1.fOf.fc ((nthI x1.fa s2).fc)) (eqI r5.1.fOf.ff ((nthI x1.fa s2).fN)) false))) true (neI r5.1.fp s3)) then (
   some (.out (.out (.out (.out (-1)))))
  ) else (
    some (.go (addI .i64 s3 1))
  )
 ) else (
   some (.out (.go ()))
 )
noncomputable def gK.loop2 (x0 : Tn) (x1 : Te) (s2 : Int) : Option (Fl Int (Fl Unit Int)) :=
 bif (ltI s2 (lenL x1.fa)) then (
  need (InB s2 (lenL x1.fa)) <|
  ((gH x0 (Td.mk ((nthI x1.fa s2).fc) ((nthI x1.fa s2).fN)))).bind fun r4 =>
  bif (pickB (pickB (pickB (notB r4.2) true (neB r4.1.fq ((nthI x1.fa s2).fq))) true (neB r4.1.fy ((nthI x1.fa s2).fy))) true (neI (lenL r4.1.fb) (lenL ((nthI x1.fa s2).fb)))) then (
   some (.out (.out (-1)))
  ) else (
    ((loopF (gK.loop3 x0 x1 r4 s2) 0).bind fun f => flC f fun (_v3 : Unit) =>
      some (.go (addI .i64 s2 1))
    )
  )
 ) else (
   some (.out (.go ()))
 )
noncomputable def gK (x0 : Tn) (x1 : Te) : Option Int :=
 ((gad x0.fe x1.fT 0)).bind fun r1 =>
 bif (neI r1 0) then (
  some (-1)
 ) else (
   ((gm x0)).bind fun r2 =>
   bif (neI (lenL r2) (lenL x1.fd)) then (
    some (-1)
   ) else (
     ((loopF (gK.loop1 x0 x1 r2) 0).bind fun f => flC f fun (_v1 : Unit) =>
       ((loopF (gK.loop2 x0 x1) 0).bind fun f => flC f fun (_v2 : Unit) =>
         some 0
       )
     )
   )
 )
end Go.Proofs
end
section
set_option maxRecDepth 100000
set_option maxHeartbeats 4000000
namespace Go.Proofs
open Go.Ab
@[simp] def gap.out (_x0 : Int) (r : Bool) : Out := { av := .lit (.bool r), M := none }
theorem gap.can (x0 : Int) (r : Bool) (hr : gap x0 = some r) : CallOk Tryz.prog 95 [.lit (.int .i64 x0)] [] (gap.out x0 r) := by
 unfold gap at hr;have hΓ := gamL_nil (P := Tryz.prog);refine cw Tryz.func95 rfl (by kernel_rfl) rfl rfl (by simp) fun _ _ _ => ?_;refine tq hΓ [] [] ?_;refine tq hΓ [2] [0] ?_;obtain rfl := La hr;exact AWp.ret (Lb (by simp))
@[simp] noncomputable def gap.S : Sp
  | [.lit (.int .i64 x0)], _ => some { av := .lit (.bool ((gap x0).getD dflt)), M := none, obl := (gap x0).isSome = true }
  | _, _ => none
theorem gap.ok : SpecOk Tryz.prog 95 gap.S := by
 intro l M out h;unfold gap.S at h;split at h
 ·rename_i x0;cases h;refine callOk_of fun ho => ?_;have hs := ho;obtain ⟨r, hr⟩ := so1 hs;simp only [hr, gd1];have q := Lf (M := M) [] (gap.can x0 r hr) (by simp) rfl ixn;exact callOk_conv q trivial (by simp) (by simp [frameOut]) (by simp [frameOut])
 ·cases h
@[simp] def gaB.out (_x0 : Int) (r : Bool) : Out := { av := .lit (.bool r), M := none }
theorem gaB.can (x0 : Int) (r : Bool) (hr : gaB x0 = some r) : CallOk Tryz.prog 96 [.lit (.int .i64 x0)] [] (gaB.out x0 r) := by
 unfold gaB at hr;have hΓ := gamL_nil (P := Tryz.prog);refine cw Tryz.func96 rfl (by kernel_rfl) rfl rfl (by simp) fun _ _ _ => ?_;refine tq hΓ [] [] ?_;refine tq hΓ [2] [0] ?_;obtain rfl := La hr;exact AWp.ret (Lb (by simp))
@[simp] noncomputable def gaB.S : Sp
  | [.lit (.int .i64 x0)], _ => some { av := .lit (.bool ((gaB x0).getD dflt)), M := none, obl := (gaB x0).isSome = true }
  | _, _ => none
theorem gaB.ok : SpecOk Tryz.prog 96 gaB.S := by
 intro l M out h;unfold gaB.S at h;split at h
 ·rename_i x0;cases h;refine callOk_of fun ho => ?_;have hs := ho;obtain ⟨r, hr⟩ := so1 hs;simp only [hr, gd1];have q := Lf (M := M) [] (gaB.can x0 r hr) (by simp) rfl ixn;exact callOk_conv q trivial (by simp) (by simp [frameOut]) (by simp [frameOut])
 ·cases h
@[simp] def gaq.out (_x0 : Int) (r : Bool) : Out := { av := .lit (.bool r), M := none }
theorem gaq.can (x0 : Int) (r : Bool) (hr : gaq x0 = some r) : CallOk Tryz.prog 97 [.lit (.int .i64 x0)] [] (gaq.out x0 r) := by
 unfold gaq at hr;have hΓ := gamL_nil (P := Tryz.prog);refine cw Tryz.func97 rfl (by kernel_rfl) rfl rfl (by simp) fun _ _ _ => ?_;refine tq hΓ [] [] ?_;refine tq hΓ [2] [0] ?_;obtain rfl := La hr;exact AWp.ret (Lb (by simp))
@[simp] noncomputable def gaq.S : Sp
  | [.lit (.int .i64 x0)], _ => some { av := .lit (.bool ((gaq x0).getD dflt)), M := none, obl := (gaq x0).isSome = true }
  | _, _ => none
theorem gaq.ok : SpecOk Tryz.prog 97 gaq.S := by
 intro l M out h;unfold gaq.S at h;split at h
 ·rename_i x0;cases h;refine callOk_of fun ho => ?_;have hs := ho;obtain ⟨r, hr⟩ := so1 hs;simp only [hr, gd1];have q := Lf (M := M) [] (gaq.can x0 r hr) (by simp) rfl ixn;exact callOk_conv q trivial (by simp) (by simp [frameOut]) (by simp [frameOut])
 ·cases h
@[simp] def gat.out (_x0 : Int) (r : Bool) : Out := { av := .lit (.bool r), M := none }
theorem gat.can (x0 : Int) (r : Bool) (hr : gat x0 = some r) : CallOk Tryz.prog 98 [.lit (.int .i64 x0)] [] (gat.out x0 r) := by
 unfold gat at hr;have hΓ := gamL_nil (P := Tryz.prog);refine cw Tryz.func98 rfl (by kernel_rfl) rfl rfl (by simp) fun _ _ _ => ?_;refine tq hΓ [] [] ?_;refine tq hΓ [2] [0] ?_;obtain rfl := La hr;exact AWp.ret (Lb (by simp))
@[simp] noncomputable def gat.S : Sp
  | [.lit (.int .i64 x0)], _ => some { av := .lit (.bool ((gat x0).getD dflt)), M := none, obl := (gat x0).isSome = true }
  | _, _ => none
theorem gat.ok : SpecOk Tryz.prog 98 gat.S := by
 intro l M out h;unfold gat.S at h;split at h
 ·rename_i x0;cases h;refine callOk_of fun ho => ?_;have hs := ho;obtain ⟨r, hr⟩ := so1 hs;simp only [hr, gd1];have q := Lf (M := M) [] (gat.can x0 r hr) (by simp) rfl ixn;exact callOk_conv q trivial (by simp) (by simp [frameOut]) (by simp [frameOut])
 ·cases h
@[simp] def ge.out (_x0 : Tc) (r : Int) : Out := { av := .lit (.int .i64 r), M := none }
def ge.fin (x0 : Tc) (r : Int) (σ : St) : Prop := finK (ge.out x0 r) [] σ.M (resA Tryz.ty σ.A σ.M Tryz.f100.results.toList)
theorem ge.can (x0 : Tc) (r : Int) (hr : ge x0 = some r) : CallOk Tryz.prog 100 [.agg [.lit (.int .i64 x0.fm), .lit (.string x0.fk), .lit (.string x0.fo), .lit (.int .i64 x0.fc), .lit (.int .i64 x0.fOf), .lit (.int .i64 x0.ff), .lit (.int .i64 x0.fp), .lit (.bool x0.fOn), .lit (.bool x0.fq), .sl (x0.fb.map (eNum .u32)) .no]] [] (ge.out x0 r) := by
 unfold ge at hr;have hΓ := gamL_nil (P := Tryz.prog);refine cw Tryz.func100 rfl (by kernel_rfl) rfl rfl (by simp) fun _ _ _ => ?_;refine tq hΓ [1] [0] ?_;refine AWp.seq ?_;refine tq hΓ [25] [] ?_;refine AWp.cnd hr (by simp) (fun h7 hr => ?_) (fun h7 hr => ?_)
 ·refine tq hΓ [2] [25, 1] ?_ (by simp [h7]; exact rr);obtain rfl := La hr;exact AWp.ret (Lb (by simp))
 ·refine AWp.skip ?_;refine AWp.seq ?_;refine tq hΓ [28, 29] [25] ?_ (by simp [h7]; exact rr);refine AWp.loopE (fun (s1 : Int) (γ1 : Unit) => ⟨[⟨28, none, .n (lenL x0.fb)⟩, ⟨29, none, .n s1⟩, ⟨1, none, .ptr 0 0⟩], [.blk x0.enc]⟩) (fun (v1 : Unit) (γ1a : Unit) => ⟨[], [.blk x0.enc]⟩) (ge.fin x0) hr () 1 (by simp) (fun s1 f γ1 hr => ?_) (fun v1 γ1a σ1 m1 hr hc => ?_) (fun _ h => h)
  ·unfold ge.loop1 at hr;refine tq hΓ [30] [] ?_ (by simp; exact rr);refine AWp.seq ?_;refine AWp.cnd hr (by simp) (fun h8 hr => ?_) (fun h8 hr => ?_)
   ·refine AWp.skip ?_;refine AWp.seq ?_;refine AWp.block ?_;refine tq hΓ [3] [30] ?_ (by simp [h8]; exact rr);refine tq hΓ [4] [] ?_ (by simp; exact rr);refine AWp.loopE (fun (s2 : Int) (γ2 : Unit) => ⟨[⟨4, none, .n s2⟩, ⟨3, none, .n s1⟩, ⟨28, none, .n (lenL x0.fb)⟩, ⟨29, none, .n s1⟩, ⟨1, none, .ptr 0 0⟩], [.blk x0.enc]⟩) (fun (v2 : Unit) (γ2a : Unit) => ⟨[⟨28, none, .n (lenL x0.fb)⟩, ⟨29, none, .n s1⟩, ⟨1, none, .ptr 0 0⟩], [.blk x0.enc]⟩) (QRr (ge.fin x0)) hr () 1 (by simp) (fun s2 f γ2 hr => ?_) (fun v2 γ2a σ1 m1 hr hc => ?_) (fun _ h => QRr_ret h)
    ·unfold ge.loop2 at hr;refine AWp.seq ?_;refine tq hΓ [34] [] ?_ (by simp; exact rr);refine AWp.cnd hr (by simp) (fun h9 hr => ?_) (fun h9 hr => ?_)
     ·refine AWp.skip ?_;refine AWp.seq ?_;refine AWp.block ?_;obtain ⟨h10, hr⟩ := Ld hr;obtain ⟨h11, hr⟩ := Ld hr;refine td hΓ [47] [34] [] [(false, []), (false, []), (false, []), (false, []), (false, []), (false, []), (false, []), (false, []), (false, []), (false, []), (false, [])] (by simp [h9, h10, h11]; exact rr) ?_;refine AWp.cnd hr (by simp) (fun h12 hr => ?_) (fun h12 hr => ?_)
      ·refine tq hΓ [2] [47, 4, 3, 28, 29, 1] ?_ (by simp [h12]; exact rr);refine AWp.ret ?_;obtain rfl := La hr;refine Lr ?_;refine ⟨_, rfl, ?_⟩;refine Lb ?_;simp
      ·refine AWp.skip ?_;refine tl hΓ [4] [47] ?_ (by simp [h12]; exact rr);obtain rfl := La hr;exact Lj () 1 (by first | (simp; done) | simp [h7, h8, h9, h10, h11, h12])
     ·refine AWp.exit ?_;obtain rfl := La hr;exact Ll () 1 (by first | (simp; done) | simp [h7, h8, h9])
    ·refine AWp.conv hc ?_;refine tl hΓ [29] [] ?_ (by simp; exact rr);obtain rfl := La hr;exact Lj () 1 (by first | (simp; done) | simp [h7, h8])
   ·refine AWp.exit ?_;obtain rfl := La hr;exact Ll () 1 (by first | (simp; done) | simp [h7, h8])
  ·refine AWp.conv hc ?_;refine tq hΓ [2] [] ?_ (by simp; exact rr);obtain rfl := La hr;exact AWp.ret (Lb (by simp))
@[simp] noncomputable def ge.S : Sp
  | [.agg e0], _ => some { av := .lit (.int .i64 ((ge (Tc.dec e0)).getD dflt)), M := none, obl := WeakL e0 (Tc.enc (Tc.dec e0)) ∧ (ge (Tc.dec e0)).isSome = true }
  | _, _ => none
theorem ge.ok : SpecOk Tryz.prog 100 ge.S := by
 intro l M out h;unfold ge.S at h;split at h
 ·rename_i e0;cases h;refine callOk_of fun ho => ?_;obtain ⟨ox0, hs⟩ := ho;generalize (Tc.dec e0) = x0 at *
  obtain ⟨r, hr⟩ := so1 hs;simp only [hr, gd1];have q := Lf (M := M) [] (ge.can x0 r hr) (by simp) rfl ixn;exact callOk_conv q trivial (by simp; exact ox0) (by simp [frameOut]) (by simp [frameOut])
 ·cases h
@[simp] def gX.out (_x0 : Tc) (r : Int) : Out := { av := .lit (.int .i64 r), M := none }
theorem gX.can (x0 : Tc) (r : Int) (hr : gX x0 = some r) : CallOk Tryz.prog 48 [.agg [.lit (.int .i64 x0.fm), .lit (.string x0.fk), .lit (.string x0.fo), .lit (.int .i64 x0.fc), .lit (.int .i64 x0.fOf), .lit (.int .i64 x0.ff), .lit (.int .i64 x0.fp), .lit (.bool x0.fOn), .lit (.bool x0.fq), .sl (x0.fb.map (eNum .u32)) .no]] [] (gX.out x0 r) := by
 unfold gX at hr;have hΓ := (gamL_cons gM.ok (gamL_cons gat.ok (gamL_cons gaB.ok (gamL_cons gap.ok (gamL_cons ge.ok (gamL_cons gaq.ok (gamL_nil)))))) : GamOk Tryz.prog _);refine cw Tryz.func48 rfl (by kernel_rfl) rfl rfl (by simp) fun _ _ _ => ?_;refine tq hΓ [1] [0] ?_;refine tq hΓ [3] [] ?_;refine AWp.seq ?_;refine tq hΓ [11] [] ?_;refine AWp.cnd hr (by simp) (fun h15 hr => ?_) (fun h15 hr => ?_)
 ·refine tq hΓ [2] [11, 3, 1] ?_ (by simp [h15]; exact rr);obtain rfl := La hr;exact AWp.ret (Lb (by simp))
 ·refine AWp.skip ?_;refine AWp.seq ?_;obtain ⟨h16, hr⟩ := Ld hr;obtain ⟨h17, hr⟩ := Ld hr;obtain ⟨h18, hr⟩ := Ld hr;refine tq hΓ [53] [11] ?_ (by simp [h15, h16, h17, h18]; exact rr);refine AWp.cnd hr (by simp) (fun h19 hr => ?_) (fun h19 hr => ?_)
  ·refine tq hΓ [2] [53, 3, 1] ?_ (by simp [h19]; exact rr);obtain rfl := La hr;exact AWp.ret (Lb (by simp))
  ·refine AWp.skip ?_;refine AWp.seq ?_;refine tq hΓ [86] [53] ?_ (by simp [h19]; exact rr);refine AWp.cnd hr (by simp) (fun h20 hr => ?_) (fun h20 hr => ?_)
   ·refine tq hΓ [2] [86, 3, 1] ?_ (by simp [h20]; exact rr);obtain rfl := La hr;exact AWp.ret (Lb (by simp))
   ·refine AWp.skip ?_;refine AWp.seq ?_;obtain ⟨r1, h21, hr⟩ := Lc hr;obtain ⟨h22, hr⟩ := Ld hr;refine tq hΓ [116] [86] ?_ (by simp [h20, h21, h22]; exact rr);refine AWp.cnd hr (by simp) (fun h23 hr => ?_) (fun h23 hr => ?_)
    ·refine tq hΓ [2] [116, 3, 1] ?_ (by simp [h23]; exact rr);obtain rfl := La hr;exact AWp.ret (Lb (by simp))
    ·refine AWp.skip ?_;refine AWp.seq ?_;obtain ⟨h24, hr⟩ := Ld hr;obtain ⟨h25, hr⟩ := Ld hr;refine tq hΓ [130] [116] ?_ (by simp [h23, h24, h25]; exact rr);refine AWp.cnd hr (by simp) (fun h26 hr => ?_) (fun h26 hr => ?_)
     ·refine tq hΓ [2] [130, 3, 1] ?_ (by simp [h26]; exact rr);obtain rfl := La hr;exact AWp.ret (Lb (by simp))
     ·refine AWp.skip ?_;refine AWp.seq ?_;refine tq hΓ [132] [130, 3] ?_ (by simp [h26]; exact rr);refine AWp.cnd hr (by simp) (fun h27 hr => ?_) (fun h27 hr => ?_)
      ·obtain ⟨r2, h28, hr⟩ := Lc hr;refine tq hΓ [2] [132, 1] ?_ (by simp [h27, h28]; exact rr);obtain rfl := La hr;exact AWp.ret (Lb (by simp))
      ·refine AWp.skip ?_;refine tq hΓ [2] [132, 1] ?_ (by simp [h27]; exact rr);obtain rfl := La hr;exact AWp.ret (Lb (by simp))
@[simp] noncomputable def gX.S : Sp
  | [.agg e0], _ => some { av := .lit (.int .i64 ((gX (Tc.dec e0)).getD dflt)), M := none, obl := WeakL e0 (Tc.enc (Tc.dec e0)) ∧ (gX (Tc.dec e0)).isSome = true }
  | _, _ => none
theorem gX.ok : SpecOk Tryz.prog 48 gX.S := by
 intro l M out h;unfold gX.S at h;split at h
 ·rename_i e0;cases h;refine callOk_of fun ho => ?_;obtain ⟨ox0, hs⟩ := ho;generalize (Tc.dec e0) = x0 at *
  obtain ⟨r, hr⟩ := so1 hs;simp only [hr, gd1];have q := Lf (M := M) [] (gX.can x0 r hr) (by simp) rfl ixn;exact callOk_conv q trivial (by simp; exact ox0) (by simp [frameOut]) (by simp [frameOut])
 ·cases h
end Go.Proofs
end
section
namespace Go.Proofs
open Go.Ab Go.Lib
noncomputable def foldB (l : List UInt8) : List UInt8 := ((runesL l).map lowerR).flatMap encodeRune
theorem foldB_d (s : ByteArray) : bytesOf (foldS s) = foldB (bytesOf s) := by
 rw [foldS_b]; rfl
theorem eqF (a b : ByteArray) : eqS (foldS a) (foldS b) = decide (foldB (bytesOf a) = foldB (bytesOf b)) := by rw [eqS_b, foldB_d, foldB_d]
theorem scan_b (s : ByteArray) : scan s 0 = runesL (bytesOf s) := rfl
abbrev shall : ByteArray := ⟨#[104, 97, 108, 108]⟩
theorem g_hall : goodB (scan shall 0) = true := by rw [scan_b]; decide +kernel
theorem ltS_b (a b : ByteArray) : ltS a b = decide (bytesOf a < bytesOf b) := by
 unfold ltS;rw [bytesLess_eq];have e : ∀ x : ByteArray, x.toList = bytesOf x := fun x => Go.ByteArray.toList_eq x;rw [e, e]
theorem kb_b (x : ByteArray) : kbytesOf x = bytesOf x := rfl
theorem sortS_mem {l : List ByteArray} {x : ByteArray} : x ∈ sortS l ↔ x ∈ l := by
 unfold sortS;rw [List.mem_map];constructor
 ·rintro ⟨y, hy, rfl⟩;obtain ⟨z, hz, rfl⟩ := List.mem_map.1 ((List.mergeSort_perm _ _).mem_iff.1 hy);rw [kofB_kbOf]; exact hz
 ·intro h;exact ⟨kbytesOf x, (List.mergeSort_perm _ _).mem_iff.2 (List.mem_map.2 ⟨x, h, rfl⟩), kofB_kbOf x⟩
theorem sortS_up {l : List ByteArray} (h : l.Nodup) : (sortS l).Pairwise fun a b => ltS a b = true := by
 have hn : ((l.map kbytesOf).mergeSort fun x y => decide (x ≤ y)).Nodup := by
  refine (List.mergeSort_perm _ _).nodup_iff.2 ?_;unfold List.Nodup at h ⊢;rw [List.pairwise_map];refine h.imp fun hab q => hab ?_;have := congrArg kofBytes q;rw [kofB_kbOf, kofB_kbOf] at this; exact this
 have hs := List.pairwise_mergeSort (le := fun x y : List UInt8 => decide (x ≤ y)) (fun a b c h1 h2 => by simp only [decide_eq_true_eq] at *; exact List.le_trans h1 h2) (fun a b => by simp only [Bool.or_eq_true, decide_eq_true_eq]; exact List.le_total a b) (l.map kbytesOf);unfold sortS;rw [List.pairwise_map];refine (hs.and hn).imp fun {a b} hab => ?_;obtain ⟨h1, h2⟩ := hab;rw [ltS_b, decide_eq_true_eq, ← kb_b, ← kb_b, kbOf_kofB, kbOf_kofB];have h1 := of_decide_eq_true h1;rcases Classical.em (a < b) with q | q
 ·exact q
 ·exact absurd (List.le_antisymm h1 (by exact q)) h2
theorem is_d {L : List Pr} {nx : Int} (h : Tbl L nx) (n : Int) : gad (Tq.mk (entL L) nx) (Tl.mk L nx) n = some 0 := by
 have hd := h.doc;have h8 := h.rooms;have hup := sortS_up (nodup_nubL (roomsL L));have hlen : (sortS (nubL (roomsL L))).length = (nubL (roomsL L)).length := sortS_len _;generalize hS : sortS (nubL (roomsL L)) = S at *
 have hSm : ∀ s ∈ S, ∃ p ∈ L, s = foldS p.fk := fun s hs => by
  rw [← hS] at hs;obtain ⟨p, hp, e⟩ := List.mem_map.1 (mem_nubL.1 (sortS_mem.1 hs));exact ⟨p, hp, e.symm⟩
 have w : loopF (gad.loop1 (Tq.mk (entL L) nx) (Tl.mk L nx) S) 0 = some (.go ()) := by
  refine walk_out (n := S.length) (fun i => (i : Int)) (fun i hi => ?_) ?_
  ·obtain ⟨p, hp, e⟩ := hSm S[i] (List.getElem_mem hi);obtain ⟨g1, g2⟩ := h.room p hp;have hz := fold_size p.fk;have hsz : (S[i]).size ≤ 1000000 := by rw [e]; omega
   have hne : bytesOf S[i] ≠ [] := by rw [e]; exact good_ne (good_fold g1)
   have hin : p ∈ inL L S[i] := List.mem_filter.2 ⟨hp, by rw [e, fold_idem]; exact eqS_self _⟩;have hpos : 0 < (inL L S[i]).length := List.length_pos_iff.2 (List.ne_nil_of_mem hin);have h16 := h.few S[i];unfold gad.loop1;rw [ltI_t (by unfold lenL; omega), cond_true, Lh (inB_at hi), nthI_at hi, in_d h hsz hne, Lg, rin_d hd hsz, Lg]
   have hprev : need (Under (ltI 0 (i : Int)) true (InB (subI .i64 (i : Int) 1) (lenL S))) = (id : Option (Fl Int (Fl Unit Int)) → _) := by
    funext x;refine Lh fun hq => ?_
    have : 0 < i := by
     rw [ltI_d] at hq;have := of_decide_eq_true hq;omega
    rw [subI_n (by omega) (by omega)];exact ⟨by omega, by unfold lenL; omega⟩
   rw [hprev];simp only [id]
   have hc : pickB (pickB (pickB (pickB (ltI 0 (i : Int)) (notB (ltS (nthI S (subI .i64 (i : Int) 1)) S[i])) false) true (neI (lenL (inL L S[i])) (lenL (inL L S[i])))) true (eqI (lenL (inL L S[i])) 0)) true (ltI 16 (lenL (inL L S[i]))) = false := by
    rw [neI_f rfl, eqI_f (by unfold lenL; omega), ltI_f (a := 16) (by unfold lenL; omega)]
    have : pickB (ltI 0 (i : Int)) (notB (ltS (nthI S (subI .i64 (i : Int) 1)) S[i])) false = false := by
     by_cases h0 : 0 < i
     ·have e1 : subI .i64 (i : Int) 1 = ((i - 1 : Nat) : Int) := by rw [subI_n (by omega) (by omega)]; omega
      have hi1 : i - 1 < S.length := by omega
      rw [e1, nthI_at hi1];have := List.pairwise_iff_getElem.1 hup (i - 1) i hi1 hi (by omega);rw [this, ltI_t (by omega)];rfl
     ·rw [ltI_f (by omega)]; rfl
    rw [this];rfl
   rw [hc, cond_false]
   have w2 : loopF (gad.loop2 (inL L S[i]) (inL L S[i])) 0 = some (.go ()) := by
    refine walk_out (n := (inL L S[i]).length) (fun j => (j : Int)) (fun j hj => ?_) ?_
    ·unfold gad.loop2;rw [ltI_t (by unfold lenL; omega), cond_true, Lh (inB_at hj), Lh (inB_at hj), nthI_at hj, eqI_t rfl, eqS_self, eqS_self, Lp (by omega)];rfl
    ·unfold gad.loop2;rw [ltI_f (by unfold lenL; omega), cond_false]
   rw [w2, Lp (by omega)];rfl
  ·unfold gad.loop1;rw [ltI_f (by unfold lenL; omega), cond_false]
 unfold gad;rw [peer_d, rfind_d hd.len, rooms_d h, hS, rrooms_d hd, len_room];simp only [Lg]
 have hc : pickB (pickB (pickB (pickB (neI (L.length : Int) (lenL L)) true (notB (pickB (eqI ((findL L n).getD noPr).fN ((findL L n).getD noPr).fN) (pickB (eqS ((findL L n).getD noPr).fo ((findL L n).getD noPr).fo) (eqS ((findL L n).getD noPr).fk ((findL L n).getD noPr).fk) false) false))) true (neB (findL L n).isSome (findL L n).isSome)) true (neI (lenL S) (lenL (fst L L.length)))) true (ltI 8 (lenL S)) = false := by
  have e : lenL (fst L L.length) = lenL S := by unfold lenL; rw [fst_len, hlen]
  rw [neI_f (show (L.length : Int) = lenL L from rfl), eqI_t rfl, eqS_self, eqS_self, e, neI_f rfl, ltI_f (by unfold lenL; omega), neB_d];simp [pickB]
 rw [hc, cond_false, w];rfl
end Go.Proofs
end
