import Derived.Test.YtoiieebljbhpbaaGreatDoorM12
import Derived.Test.YtoiieebljbhpbaaGreatDoorTy
import Derived.Test.YtoiieebljbhpbaaGreatDoorM21
section
set_option maxRecDepth 100000
set_option maxHeartbeats 4000000
namespace Go.Proofs
open Go.Ab
@[simp] def gk.m (x0 : List Int) (_x1 : Int) (_x2 : List Int) : List qau := [.opq (wrO 143 5 x0)]
@[simp] def gk.out (_x0 : List Int) (_x1 : Int) (_x2 : List Int) (r : List Int) : Out := { av := .ptr 0 0, M := some [.opq (wrO 143 5 r)] }
def gk.fin (x0 : List Int) (x1 : Int) (x2 : List Int) (r : List Int) (σ : St) : Prop := finK (gk.out x0 x1 x2 r) (gk.m x0 x1 x2) σ.M (resA Tryz.ty σ.A σ.M Tryz.f113.results.toList)
theorem gk.can (x0 : List Int) (x1 : Int) (x2 : List Int) (r : List Int) (hr : gk x0 x1 x2 = some r) : qao Tryz.prog 113 [.ptr 0 0, .lit (.int .i64 x1), .sl (x2.map (eNum .u64)) .no] (gk.m x0 x1 x2) (gk.out x0 x1 x2 r) := by
 unfold gk at hr;have hΓ := (qab gbf.ok (qae) : qbc Tryz.prog _);refine cw Tryz.func113 rfl (by kernel_rfl) rfl rfl (by simp) fun _ _ _ => ?_;refine tq hΓ [] [] ?_;refine tq hΓ [1] [] ?_;refine AWp.seq ?_;refine tq hΓ [13, 14, 15] [2] ?_;refine AWp.loopE (fun (s1 : Int × List Int) (γ1 : Unit) => ⟨[⟨13, none, .sl (x2.map (eNum .u64)) .no⟩, ⟨14, none, .n (qat x2)⟩, ⟨15, none, .n s1.1⟩, ⟨1, none, .n (minI (maxI x1 1) 8)⟩, ⟨0, none, .ptr 0 0⟩], [.opq (wrO 143 5 s1.2)]⟩) (fun (v1 : List Int) (γ1a : Unit) => ⟨[⟨0, none, .ptr 0 0⟩], [.opq (wrO 143 5 v1)]⟩) (gk.fin x0 x1 x2) hr () 1 (by simp) (fun s1 f γ1 hr => ?_) (fun v1 γ1a σ1 m1 hr hc => ?_) (fun _ h => h)
 ·unfold gk.loop1 at hr;refine tq hΓ [16] [] ?_;refine AWp.seq ?_;refine AWp.cnd hr (by simp) (fun h6 hr => ?_) (fun h6 hr => ?_)
  ·refine AWp.skip ?_;refine AWp.seq ?_;refine AWp.block ?_;obtain ⟨h7, hr⟩ := Lg hr;refine tq hΓ [8] [16] ?_ (by simp [h6, h7]; exact rr);refine tq hΓ [9] [] ?_ (by simp; exact rr);refine AWp.loopE (fun (s2 : Int × List Int) (γ2 : Unit) => ⟨[⟨9, none, .n s2.1⟩, ⟨8, none, .lit (.int .u64 (nthI x2 s1.1))⟩, ⟨13, none, .sl (x2.map (eNum .u64)) .no⟩, ⟨14, none, .n (qat x2)⟩, ⟨15, none, .n s1.1⟩, ⟨1, none, .n (minI (maxI x1 1) 8)⟩, ⟨0, none, .ptr 0 0⟩], [.opq (wrO 143 5 s2.2)]⟩) (fun (v2 : List Int) (γ2a : Unit) => ⟨[⟨13, none, .sl (x2.map (eNum .u64)) .no⟩, ⟨14, none, .n (qat x2)⟩, ⟨15, none, .n s1.1⟩, ⟨1, none, .n (minI (maxI x1 1) 8)⟩, ⟨0, none, .ptr 0 0⟩], [.opq (wrO 143 5 v2)]⟩) (QRr (gk.fin x0 x1 x2)) hr () 1 (by simp) (fun s2 f γ2 hr => ?_) (fun v2 γ2a σ1 m1 hr hc => ?_) (fun _ h => QRr_ret h)
   ·unfold gk.loop2 at hr;refine AWp.seq ?_;refine tq hΓ [22] [] ?_ (by simp; exact rr);refine AWp.cnd hr (by simp) (fun h8 hr => ?_) (fun h8 hr => ?_)
    ·refine AWp.skip ?_;refine AWp.seq ?_;refine AWp.block ?_;obtain ⟨h9, hr⟩ := Lg hr;obtain ⟨h10, hr⟩ := Lg hr;refine AWp.lst (AWp.regD Tryz.mixed Tryz.tyOk hΓ [] [22] [] [(false, []), (false, []), (false, []), (false, []), (false, []), (false, []), (false, []), (false, []), (true, [])] (by kernel_rfl) rfl (by simp [h8, h9, h10]; exact rr)) ?_;refine tl hΓ [9] [] ?_ (by simp; exact rr);obtain rfl := La hr;exact Lq () 1 (by first | (simp; done) | simp [h6, h7, h8, h9, h10])
    ·refine AWp.exit ?_;obtain rfl := La hr;exact Ln () 1 (by first | (simp; done) | simp [h6, h7, h8])
   ·refine AWp.conv hc ?_;refine tl hΓ [15] [] ?_ (by simp; exact rr);obtain rfl := La hr;exact Lq () 1 (by first | (simp; done) | simp [h6, h7])
  ·refine AWp.exit ?_;obtain rfl := La hr;exact Ln () 1 (by first | (simp; done) | simp [h6])
 ·refine AWp.conv hc ?_;refine tq hΓ [6] [0] ?_;obtain rfl := La hr;exact AWp.ret (Ld (by simp))
@[simp] noncomputable def gk.S : Sp
  | [.ptr i0 0, .lit (.int .i64 x1), .sl e2 _], M => (rdQ M i0).bind fun c0 => some { av := .ptr i0 0, M := some (M.set i0 (.opq (wrO 143 5 ((gk c0.bs x1 (e2.map decI)).getD dflt)))), obl := e2 = (e2.map decI).map (eNum .u64) ∧ c0 = wrO 143 5 c0.bs ∧ (gk c0.bs x1 (e2.map decI)).isSome = true }
  | _, _ => none
theorem gk.ok : qap Tryz.prog 113 gk.S := by
 intro l M out h;unfold gk.S at h;split at h
 ·rename_i i0 x1 e2 k2;obtain ⟨c0, hM0, h⟩ := bQ h;cases h;refine qad fun ho => ?_;obtain ⟨ox2, oc0, hs⟩ := ho;generalize c0.bs = y0 at *
  generalize (e2.map decI) = x2 at *
  subst ox2;subst oc0;obtain ⟨r, hr⟩ := so1 hs;simp only [hr, gd1];have q := Lf (M := M) [i0] (gk.can y0 x1 x2 r hr) (by simp) rfl (ix (by simp [hM0]) ixn);exact qac q trivial (by simp [into]) (by simp [qaa, into]) (by simp [qaa, into])
 ·cases h
@[simp] def gp.m (x0 : List Int) (_x1 : List Int) : List qau := [.opq (wrO 143 5 x0)]
@[simp] def gp.out (_x0 : List Int) (_x1 : List Int) (r : List Int) : Out := { av := .ptr 0 0, M := some [.opq (wrO 143 5 r)] }
def gp.fin (x0 : List Int) (x1 : List Int) (r : List Int) (σ : St) : Prop := finK (gp.out x0 x1 r) (gp.m x0 x1) σ.M (resA Tryz.ty σ.A σ.M Tryz.f67.results.toList)
theorem gp.can (x0 : List Int) (x1 : List Int) (r : List Int) (hr : gp x0 x1 = some r) : qao Tryz.prog 67 [.ptr 0 0, .sl (x1.map (eNum .u16)) .no] (gp.m x0 x1) (gp.out x0 x1 r) := by
 unfold gp at hr;have hΓ := (qab gk.ok (qae) : qbc Tryz.prog _);refine cw Tryz.func67 rfl (by kernel_rfl) rfl rfl (by simp) fun _ _ _ => ?_;refine tq hΓ [] [] ?_;refine AWp.seq ?_;refine tq hΓ [7, 8, 9] [1] ?_;refine AWp.loopE (fun (s1 : Int × List Int) (γ1 : Unit) => ⟨[⟨7, none, .sl (x1.map (eNum .u16)) .no⟩, ⟨8, none, .n (qat x1)⟩, ⟨9, none, .n s1.1⟩, ⟨0, none, .ptr 0 0⟩], [.opq (wrO 143 5 s1.2)]⟩) (fun (v1 : List Int) (γ1a : Unit) => ⟨[⟨0, none, .ptr 0 0⟩], [.opq (wrO 143 5 v1)]⟩) (gp.fin x0 x1) hr () 1 (by simp) (fun s1 f γ1 hr => ?_) (fun v1 γ1a σ1 m1 hr hc => ?_) (fun _ h => h)
 ·unfold gp.loop1 at hr;refine tq hΓ [10] [] ?_;refine AWp.seq ?_;refine AWp.cnd hr (by simp) (fun h4 hr => ?_) (fun h4 hr => ?_)
  ·refine AWp.skip ?_;refine AWp.seq ?_;refine AWp.block ?_;obtain ⟨h5, hr⟩ := Lg hr;refine tq hΓ [6] [10] ?_ (by simp [h4, h5]; exact rr);obtain ⟨r1, h6, hr⟩ := Lb hr;refine tl hΓ [] [6] ?_ (by simp [h6]; exact rr);refine tl hΓ [9] [] ?_ (by simp; exact rr);obtain rfl := La hr;exact Lq () 1 (by first | (simp; done) | simp [h4, h5, h6])
  ·refine AWp.exit ?_;obtain rfl := La hr;exact Ln () 1 (by first | (simp; done) | simp [h4])
 ·refine AWp.conv hc ?_;refine tq hΓ [4] [0] ?_;obtain rfl := La hr;exact AWp.ret (Ld (by simp))
@[simp] noncomputable def gp.S : Sp
  | [.ptr i0 0, .sl e1 _], M => (rdQ M i0).bind fun c0 => some { av := .ptr i0 0, M := some (M.set i0 (.opq (wrO 143 5 ((gp c0.bs (e1.map decI)).getD dflt)))), obl := e1 = (e1.map decI).map (eNum .u16) ∧ c0 = wrO 143 5 c0.bs ∧ (gp c0.bs (e1.map decI)).isSome = true }
  | _, _ => none
theorem gp.ok : qap Tryz.prog 67 gp.S := by
 intro l M out h;unfold gp.S at h;split at h
 ·rename_i i0 e1 k1;obtain ⟨c0, hM0, h⟩ := bQ h;cases h;refine qad fun ho => ?_;obtain ⟨ox1, oc0, hs⟩ := ho;generalize c0.bs = y0 at *
  generalize (e1.map decI) = x1 at *
  subst ox1;subst oc0;obtain ⟨r, hr⟩ := so1 hs;simp only [hr, gd1];have q := Lf (M := M) [i0] (gp.can y0 x1 r hr) (by simp) rfl (ix (by simp [hM0]) ixn);exact qac q trivial (by simp [into]) (by simp [qaa, into]) (by simp [qaa, into])
 ·cases h
@[simp] def gt.m (x0 : List Int) (_x1 : List Int) : List qau := [.opq (wrO 143 5 x0)]
@[simp] def gt.out (_x0 : List Int) (_x1 : List Int) (r : List Int) : Out := { av := .ptr 0 0, M := some [.opq (wrO 143 5 r)] }
def gt.fin (x0 : List Int) (x1 : List Int) (r : List Int) (σ : St) : Prop := finK (gt.out x0 x1 r) (gt.m x0 x1) σ.M (resA Tryz.ty σ.A σ.M Tryz.f68.results.toList)
theorem gt.can (x0 : List Int) (x1 : List Int) (r : List Int) (hr : gt x0 x1 = some r) : qao Tryz.prog 68 [.ptr 0 0, .sl (x1.map (eNum .u32)) .no] (gt.m x0 x1) (gt.out x0 x1 r) := by
 unfold gt at hr;have hΓ := (qab gk.ok (qae) : qbc Tryz.prog _);refine cw Tryz.func68 rfl (by kernel_rfl) rfl rfl (by simp) fun _ _ _ => ?_;refine tq hΓ [] [] ?_;refine AWp.seq ?_;refine tq hΓ [7, 8, 9] [1] ?_;refine AWp.loopE (fun (s1 : Int × List Int) (γ1 : Unit) => ⟨[⟨7, none, .sl (x1.map (eNum .u32)) .no⟩, ⟨8, none, .n (qat x1)⟩, ⟨9, none, .n s1.1⟩, ⟨0, none, .ptr 0 0⟩], [.opq (wrO 143 5 s1.2)]⟩) (fun (v1 : List Int) (γ1a : Unit) => ⟨[⟨0, none, .ptr 0 0⟩], [.opq (wrO 143 5 v1)]⟩) (gt.fin x0 x1) hr () 1 (by simp) (fun s1 f γ1 hr => ?_) (fun v1 γ1a σ1 m1 hr hc => ?_) (fun _ h => h)
 ·unfold gt.loop1 at hr;refine tq hΓ [10] [] ?_;refine AWp.seq ?_;refine AWp.cnd hr (by simp) (fun h4 hr => ?_) (fun h4 hr => ?_)
  ·refine AWp.skip ?_;refine AWp.seq ?_;refine AWp.block ?_;obtain ⟨h5, hr⟩ := Lg hr;refine tq hΓ [6] [10] ?_ (by simp [h4, h5]; exact rr);obtain ⟨r1, h6, hr⟩ := Lb hr;refine tl hΓ [] [6] ?_ (by simp [h6]; exact rr);refine tl hΓ [9] [] ?_ (by simp; exact rr);obtain rfl := La hr;exact Lq () 1 (by first | (simp; done) | simp [h4, h5, h6])
  ·refine AWp.exit ?_;obtain rfl := La hr;exact Ln () 1 (by first | (simp; done) | simp [h4])
 ·refine AWp.conv hc ?_;refine tq hΓ [4] [0] ?_;obtain rfl := La hr;exact AWp.ret (Ld (by simp))
@[simp] noncomputable def gt.S : Sp
  | [.ptr i0 0, .sl e1 _], M => (rdQ M i0).bind fun c0 => some { av := .ptr i0 0, M := some (M.set i0 (.opq (wrO 143 5 ((gt c0.bs (e1.map decI)).getD dflt)))), obl := e1 = (e1.map decI).map (eNum .u32) ∧ c0 = wrO 143 5 c0.bs ∧ (gt c0.bs (e1.map decI)).isSome = true }
  | _, _ => none
theorem gt.ok : qap Tryz.prog 68 gt.S := by
 intro l M out h;unfold gt.S at h;split at h
 ·rename_i i0 e1 k1;obtain ⟨c0, hM0, h⟩ := bQ h;cases h;refine qad fun ho => ?_;obtain ⟨ox1, oc0, hs⟩ := ho;generalize c0.bs = y0 at *
  generalize (e1.map decI) = x1 at *
  subst ox1;subst oc0;obtain ⟨r, hr⟩ := so1 hs;simp only [hr, gd1];have q := Lf (M := M) [i0] (gt.can y0 x1 r hr) (by simp) rfl (ix (by simp [hM0]) ixn);exact qac q trivial (by simp [into]) (by simp [qaa, into]) (by simp [qaa, into])
 ·cases h
@[simp] def gu.m (x0 : List Int) (_x1 : List ByteArray) : List qau := [.opq (wrO 143 5 x0)]
@[simp] def gu.out (_x0 : List Int) (_x1 : List ByteArray) (r : List Int) : Out := { av := .ptr 0 0, M := some [.opq (wrO 143 5 r)] }
def gu.fin (x0 : List Int) (x1 : List ByteArray) (r : List Int) (σ : St) : Prop := finK (gu.out x0 x1 r) (gu.m x0 x1) σ.M (resA Tryz.ty σ.A σ.M Tryz.f69.results.toList)
theorem gu.can (x0 : List Int) (x1 : List ByteArray) (r : List Int) (hr : gu x0 x1 = some r) : qao Tryz.prog 69 [.ptr 0 0, .sl (x1.map eTxt) .no] (gu.m x0 x1) (gu.out x0 x1 r) := by
 unfold gu at hr;have hΓ := (qab gOwText.ok (qae) : qbc Tryz.prog _);refine cw Tryz.func69 rfl (by kernel_rfl) rfl rfl (by simp) fun _ _ _ => ?_;refine tq hΓ [] [] ?_;refine AWp.seq ?_;refine tq hΓ [7, 8, 9] [1] ?_;refine AWp.loopE (fun (s1 : Int × List Int) (γ1 : Unit) => ⟨[⟨7, none, .sl (x1.map eTxt) .no⟩, ⟨8, none, .n (qat x1)⟩, ⟨9, none, .n s1.1⟩, ⟨0, none, .ptr 0 0⟩], [.opq (wrO 143 5 s1.2)]⟩) (fun (v1 : List Int) (γ1a : Unit) => ⟨[⟨0, none, .ptr 0 0⟩], [.opq (wrO 143 5 v1)]⟩) (gu.fin x0 x1) hr () 1 (by simp) (fun s1 f γ1 hr => ?_) (fun v1 γ1a σ1 m1 hr hc => ?_) (fun _ h => h)
 ·unfold gu.loop1 at hr;refine tq hΓ [10] [] ?_;refine AWp.seq ?_;refine AWp.cnd hr (by simp) (fun h5 hr => ?_) (fun h5 hr => ?_)
  ·refine AWp.skip ?_;refine AWp.seq ?_;refine AWp.block ?_;obtain ⟨h6, hr⟩ := Lg hr;refine tq hΓ [6] [10] ?_ (by simp [h5, h6]; exact rr);obtain ⟨h7, hr⟩ := Lg hr;obtain ⟨h8, hr⟩ := Lg hr;refine tl hΓ [] [6] ?_ (by simp [h7, h8]; exact rr);refine tl hΓ [9] [] ?_ (by simp; exact rr);obtain rfl := La hr;exact Lq () 1 (by first | (simp; done) | simp [h5, h6, h7, h8])
  ·refine AWp.exit ?_;obtain rfl := La hr;exact Ln () 1 (by first | (simp; done) | simp [h5])
 ·refine AWp.conv hc ?_;refine tq hΓ [4] [0] ?_;obtain rfl := La hr;exact AWp.ret (Ld (by simp))
@[simp] noncomputable def gu.S : Sp
  | [.ptr i0 0, .sl e1 _], M => (rdQ M i0).bind fun c0 => some { av := .ptr i0 0, M := some (M.set i0 (.opq (wrO 143 5 ((gu c0.bs (e1.map decS)).getD dflt)))), obl := e1 = (e1.map decS).map eTxt ∧ c0 = wrO 143 5 c0.bs ∧ (gu c0.bs (e1.map decS)).isSome = true }
  | _, _ => none
theorem gu.ok : qap Tryz.prog 69 gu.S := by
 intro l M out h;unfold gu.S at h;split at h
 ·rename_i i0 e1 k1;obtain ⟨c0, hM0, h⟩ := bQ h;cases h;refine qad fun ho => ?_;obtain ⟨ox1, oc0, hs⟩ := ho;generalize c0.bs = y0 at *
  generalize (e1.map decS) = x1 at *
  subst ox1;subst oc0;obtain ⟨r, hr⟩ := so1 hs;simp only [hr, gd1];have q := Lf (M := M) [i0] (gu.can y0 x1 r hr) (by simp) rfl (ix (by simp [hM0]) ixn);exact qac q trivial (by simp [into]) (by simp [qaa, into]) (by simp [qaa, into])
 ·cases h
@[simp] def gR.m (x0 : List Int) : List qau := [.opq (wrO 143 5 x0)]
@[simp] def gR.out (_x0 : List Int) (r : Int) : Out := { av := .lit (.int .i64 r), M := none }
theorem gR.can (x0 : List Int) (r : Int) (hr : gR x0 = some r) : qao Tryz.prog 75 [.ptr 0 0] (gR.m x0) (gR.out x0 r) := by
 unfold gR at hr;have hΓ := (qab gOwLen.ok (qae) : qbc Tryz.prog _);refine cw Tryz.func75 rfl (by kernel_rfl) rfl rfl (by simp) fun _ _ _ => ?_;refine tq hΓ [] [] ?_;refine tq hΓ [2] [0] ?_;obtain rfl := La hr;exact AWp.ret (Ld (by simp))
@[simp] noncomputable def gR.S : Sp
  | [.ptr i0 0], M => (rdQ M i0).bind fun c0 => some { av := .lit (.int .i64 ((gR c0.bs).getD dflt)), M := none, obl := c0 = wrO 143 5 c0.bs ∧ (gR c0.bs).isSome = true }
  | _, _ => none
theorem gR.ok : qap Tryz.prog 75 gR.S := by
 intro l M out h;unfold gR.S at h;split at h
 ·rename_i i0;obtain ⟨c0, hM0, h⟩ := bQ h;cases h;refine qad fun ho => ?_;obtain ⟨oc0, hs⟩ := ho;generalize c0.bs = y0 at *
  subst oc0;obtain ⟨r, hr⟩ := so1 hs;simp only [hr, gd1];have q := Lf (M := M) [i0] (gR.can y0 r hr) (by simp) rfl (ix (by simp [hM0]) ixn);exact qac q trivial (by simp [into]) (by simp [qaa]) (by simp only [qaa, gR.out, Option.getD_some, Option.getD_none]; simp [hM0, set_same])
 ·cases h
@[simp] def gB.m (x0 : List Int) (_x1 : Int) : List qau := [.opq (wrO 143 5 x0)]
@[simp] def gB.out (_x0 : List Int) (_x1 : Int) (r : List Int) : Out := { av := .ptr 0 0, M := some [.opq (wrO 143 5 r)] }
def gB.fin (x0 : List Int) (x1 : Int) (r : List Int) (σ : St) : Prop := finK (gB.out x0 x1 r) (gB.m x0 x1) σ.M (resA Tryz.ty σ.A σ.M Tryz.f74.results.toList)
theorem gB.can (x0 : List Int) (x1 : Int) (r : List Int) (hr : gB x0 x1 = some r) : qao Tryz.prog 74 [.ptr 0 0, .lit (.int .i64 x1)] (gB.m x0 x1) (gB.out x0 x1 r) := by
 unfold gB at hr;have hΓ := (qab gR.ok (qab gbf.ok (qae)) : qbc Tryz.prog _);refine cw Tryz.func74 rfl (by kernel_rfl) rfl rfl (by simp) fun _ _ _ => ?_;refine tq hΓ [] [] ?_;refine tq hΓ [1] [] ?_;refine AWp.loopB (fun (s1 : List Int) (γ1 : Unit) => ⟨[⟨1, none, .n (maxI x1 1)⟩, ⟨0, none, .ptr 0 0⟩], [.opq (wrO 143 5 s1)]⟩) (fun (v1 : List Int) (γ1a : Unit) => ⟨[⟨0, none, .ptr 0 0⟩], [.opq (wrO 143 5 v1)]⟩) (gB.fin x0 x1) hr () 1 (by simp) (fun s1 f γ1 hr => ?_) (fun v1 γ1a hr => ?_) (fun _ h => h)
 ·unfold gB.loop1 at hr;refine AWp.seq ?_;obtain ⟨r1, h5, hr⟩ := Lb hr;obtain ⟨h6, hr⟩ := Lg hr;refine tq hΓ [11] [] ?_ (by simp [h5, h6]; exact rr);refine AWp.cnd hr (by simp) (fun h7 hr => ?_) (fun h7 hr => ?_)
  ·refine AWp.skip ?_;refine AWp.block ?_;obtain ⟨h8, hr⟩ := Lg hr;refine tl hΓ [] [11] ?_ (by simp [h7, h8]; exact rr);obtain rfl := La hr;exact Lq () 1 (by first | (simp; done) | simp [h5, h6, h7, h8])
  ·refine AWp.exit ?_;obtain rfl := La hr;exact Ln () 1 (by first | (simp; done) | simp [h5, h6, h7])
 ·refine tq hΓ [4] [0] ?_;obtain rfl := La hr;exact AWp.ret (Ld (by simp))
@[simp] noncomputable def gB.S : Sp
  | [.ptr i0 0, .lit (.int .i64 x1)], M => (rdQ M i0).bind fun c0 => some { av := .ptr i0 0, M := some (M.set i0 (.opq (wrO 143 5 ((gB c0.bs x1).getD dflt)))), obl := c0 = wrO 143 5 c0.bs ∧ (gB c0.bs x1).isSome = true }
  | _, _ => none
theorem gB.ok : qap Tryz.prog 74 gB.S := by
 intro l M out h;unfold gB.S at h;split at h
 ·rename_i i0 x1;obtain ⟨c0, hM0, h⟩ := bQ h;cases h;refine qad fun ho => ?_;obtain ⟨oc0, hs⟩ := ho;generalize c0.bs = y0 at *
  subst oc0;obtain ⟨r, hr⟩ := so1 hs;simp only [hr, gd1];have q := Lf (M := M) [i0] (gB.can y0 x1 r hr) (by simp) rfl (ix (by simp [hM0]) ixn);exact qac q trivial (by simp [into]) (by simp [qaa, into]) (by simp [qaa, into])
 ·cases h
end Go.Proofs
end
section
set_option maxRecDepth 100000
set_option maxHeartbeats 4000000
namespace Go.Proofs
open Go.Ab
@[simp] def gah.out  (r : Tt) : Out := { av := .agg [.lit (.bool r.fJ), .lit (.bool r.fM), .lit (.int .i64 r.fI), .lit (.int .i64 r.fA), .lit (.bool r.fU), .lit (.int .i64 r.fF), .lit (.int .i64 r.fo), .lit (.bool r.fV), .lit (.int .i64 r.fR)], M := none }
theorem gah.can  (r : Tt) (hr : gah = some r) : qao Tryz.prog 29 [] [] (gah.out  r) := by
 unfold gah at hr;have hΓ := qae (P := Tryz.prog);refine cw Tryz.func29 rfl (by kernel_rfl) rfl rfl (by simp) fun _ _ _ => ?_;refine tq hΓ [0] [] ?_;refine tq hΓ [] [] ?_;obtain rfl := La hr;exact AWp.ret (Ld (by simp))
@[simp] noncomputable def gah.S : Sp
  | [], _ => some { av := .agg [.lit (.bool ((gah.getD dflt).fJ)), .lit (.bool ((gah.getD dflt).fM)), .lit (.int .i64 ((gah.getD dflt).fI)), .lit (.int .i64 ((gah.getD dflt).fA)), .lit (.bool ((gah.getD dflt).fU)), .lit (.int .i64 ((gah.getD dflt).fF)), .lit (.int .i64 ((gah.getD dflt).fo)), .lit (.bool ((gah.getD dflt).fV)), .lit (.int .i64 ((gah.getD dflt).fR))], M := none, obl := gah.isSome = true }
  | _, _ => none
theorem gah.ok : qap Tryz.prog 29 gah.S := by
 intro l M out h;unfold gah.S at h;split at h
 ·cases h;refine qad fun ho => ?_;have hs := ho;obtain ⟨r, hr⟩ := so1 hs;simp only [hr, gd1];have q := Lf (M := M) [] (gah.can r hr) (by simp) rfl ixn;exact qac q trivial (by simp) (by simp [qaa]) (by simp [qaa])
 ·cases h
@[simp] def gay.out (_x0 : Bool) (_x1 : Int) (r : Int) : Out := { av := .lit (.int .u8 r), M := none }
theorem gay.can (x0 : Bool) (x1 : Int) (r : Int) (hr : gay x0 x1 = some r) : qao Tryz.prog 71 [.lit (.bool x0), .lit (.int .u8 x1)] [] (gay.out x0 x1 r) := by
 unfold gay at hr;have hΓ := qae (P := Tryz.prog);refine cw Tryz.func71 rfl (by kernel_rfl) rfl rfl (by simp) fun _ _ _ => ?_;refine tq hΓ [] [] ?_;refine AWp.seq ?_;refine tq hΓ [5] [0] ?_;refine AWp.cnd hr (by simp) (fun h2 hr => ?_) (fun h2 hr => ?_)
 ·refine tq hΓ [4] [5, 1] ?_ (by simp [h2]; exact rr);obtain rfl := La hr;exact AWp.ret (Ld (by simp))
 ·refine AWp.skip ?_;refine tq hΓ [4] [5, 1] ?_ (by simp [h2]; exact rr);obtain rfl := La hr;exact AWp.ret (Ld (by simp))
@[simp] noncomputable def gay.S : Sp
  | [.lit (.bool x0), .lit (.int .u8 x1)], _ => some { av := .lit (.int .u8 ((gay x0 x1).getD dflt)), M := none, obl := (gay x0 x1).isSome = true }
  | _, _ => none
theorem gay.ok : qap Tryz.prog 71 gay.S := by
 intro l M out h;unfold gay.S at h;split at h
 ·rename_i x0 x1;cases h;refine qad fun ho => ?_;have hs := ho;obtain ⟨r, hr⟩ := so1 hs;simp only [hr, gd1];have q := Lf (M := M) [] (gay.can x0 x1 r hr) (by simp) rfl ixn;exact qac q trivial (by simp) (by simp [qaa]) (by simp [qaa])
 ·cases h
@[simp] def gao.out (_x0 : Tt) (r : Bool) : Out := { av := .lit (.bool r), M := none }
theorem gao.can (x0 : Tt) (r : Bool) (hr : gao x0 = some r) : qao Tryz.prog 72 [.agg [.lit (.bool x0.fJ), .lit (.bool x0.fM), .lit (.int .i64 x0.fI), .lit (.int .i64 x0.fA), .lit (.bool x0.fU), .lit (.int .i64 x0.fF), .lit (.int .i64 x0.fo), .lit (.bool x0.fV), .lit (.int .i64 x0.fR)]] [] (gao.out x0 r) := by
 unfold gao at hr;have hΓ := qae (P := Tryz.prog);refine cw Tryz.func72 rfl (by kernel_rfl) rfl rfl (by simp) fun _ _ _ => ?_;refine tq hΓ [1] [0] ?_;refine tq hΓ [2] [1] ?_;obtain rfl := La hr;exact AWp.ret (Ld (by simp))
@[simp] noncomputable def gao.S : Sp
  | [.agg e0], _ => some { av := .lit (.bool ((gao (Tt.dec e0)).getD dflt)), M := none, obl := WeakL e0 (Tt.enc (Tt.dec e0)) ∧ (gao (Tt.dec e0)).isSome = true }
  | _, _ => none
theorem gao.ok : qap Tryz.prog 72 gao.S := by
 intro l M out h;unfold gao.S at h;split at h
 ·rename_i e0;cases h;refine qad fun ho => ?_;obtain ⟨ox0, hs⟩ := ho;generalize (Tt.dec e0) = x0 at *
  obtain ⟨r, hr⟩ := so1 hs;simp only [hr, gd1];have q := Lf (M := M) [] (gao.can x0 r hr) (by simp) rfl ixn;exact qac q trivial (by simp; exact ox0) (by simp [qaa]) (by simp [qaa])
 ·cases h
@[simp] def gY.out (_x0 : Tt) (r : ByteArray) : Out := { av := .lit (.string r), M := none }
def gY.fin (x0 : Tt) (r : ByteArray) (σ : St) : Prop := finK (gY.out x0 r) [] σ.M (resA Tryz.ty σ.A σ.M Tryz.f30.results.toList)
theorem gY.can (x0 : Tt) (r : ByteArray) (hr : gY x0 = some r) : qao Tryz.prog 30 [.agg [.lit (.bool x0.fJ), .lit (.bool x0.fM), .lit (.int .i64 x0.fI), .lit (.int .i64 x0.fA), .lit (.bool x0.fU), .lit (.int .i64 x0.fF), .lit (.int .i64 x0.fo), .lit (.bool x0.fV), .lit (.int .i64 x0.fR)]] [] (gY.out x0 r) := by
 unfold gY at hr;have hΓ := (qab gaz.Text.ok (qab gp.ok (qab gaz.U8.ok (qab gao.ok (qab gay.ok (qae))))) : qbc Tryz.prog _);refine cw Tryz.func30 rfl (by kernel_rfl) rfl rfl (by simp) fun _ _ _ => ?_;refine tq hΓ [1] [0] ?_;refine AWp.then ⟨[⟨3, none, .ptr 1 0⟩, ⟨1, none, .ptr 0 0⟩], [.blk x0.enc, .opq (wrO 143 5 [])]⟩ (gaz.alloc rfl rfl rfl rfl (by kernel_rfl) rfl (dead := []) (by simp [exS])) ?_;obtain ⟨r1, h24, hr⟩ := Lb hr;obtain ⟨r2, h25, hr⟩ := Lb hr;obtain ⟨r3, h26, hr⟩ := Lb hr;obtain ⟨r4, h27, hr⟩ := Lb hr;obtain ⟨h28, hr⟩ := Lg hr;refine td hΓ [] [] [] [(false, []), (false, []), (false, []), (false, []), (false, []), (false, []), (false, []), (false, []), (false, []), (false, []), (false, []), (false, []), (false, []), (false, []), (false, []), (false, []), (false, []), (true, [])] (by simp [h24, h25, h26, h27, h28]; exact rr) ?_;refine AWp.seq ?_;refine tq hΓ [24] [] ?_ (by simp [h24]; exact rr);refine AWp.cnd hr (by simp) (fun h29 hr => ?_) (fun h29 hr => ?_)
 ·obtain ⟨h30, hr⟩ := Lg hr;refine tq hΓ [2] [24, 3, 1] ?_ (by simp [h29, h30]; exact rr);obtain rfl := La hr;exact AWp.ret (Ld (by simp))
 ·refine AWp.skip ?_;obtain ⟨r5, h31, hr⟩ := Lb hr;obtain ⟨r6, h32, hr⟩ := Lb hr;obtain ⟨r7, h33, hr⟩ := Lb hr;obtain ⟨r8, h34, hr⟩ := Lb hr;obtain ⟨h35, hr⟩ := Lg hr;refine td hΓ [] [24] [] [(false, []), (false, []), (false, []), (false, []), (false, []), (false, []), (false, []), (false, []), (false, []), (false, []), (false, []), (false, []), (false, []), (false, []), (false, []), (false, []), (false, []), (false, []), (false, []), (false, []), (true, [])] (by simp [h29, h31, h32, h33, h34, h35]; exact rr) ?_;refine AWp.meetF (fun (v1 : List Int) (γ1 : Unit) => ⟨[⟨3, none, .ptr 1 0⟩, ⟨1, none, .ptr 0 0⟩], [.blk x0.enc, .opq (wrO 143 5 v1)]⟩) (gY.fin x0) hr (fun f hr => ?_) (fun v1 γ1 hr => ?_) (fun _ h => h)
  ·refine AWp.block ?_;refine tq hΓ [47] [] ?_ (by simp; exact rr);refine AWp.cnd hr (by simp) (fun h36 hr => ?_) (fun h36 hr => ?_)
   ·obtain ⟨r9, h37, hr⟩ := Lb hr;refine tl hΓ [] [47] ?_ (by simp [h36, h37]; exact rr);obtain rfl := La hr;exact Lp () 2 (by first | (simp; done) | simp [h24, h25, h26, h27, h28, h29, h31, h32, h33, h34, h35, h36, h37])
   ·refine tq hΓ [61] [47] ?_ (by simp [h36]; exact rr);refine AWp.cnd hr (by simp) (fun h38 hr => ?_) (fun h38 hr => ?_)
    ·obtain ⟨h39, hr⟩ := Lg hr;refine tl hΓ [] [61] ?_ (by simp [h38, h39]; exact rr);obtain rfl := La hr;exact Lp () 2 (by first | (simp; done) | simp [h24, h25, h26, h27, h28, h29, h31, h32, h33, h34, h35, h36, h38, h39])
    ·refine AWp.skip ?_;obtain rfl := La hr;exact Lp () 2 (by first | (simp; done) | simp [h24, h25, h26, h27, h28, h29, h31, h32, h33, h34, h35, h36, h38])
  ·refine AWp.meetF (fun (v2 : List Int) (γ2 : Unit) => ⟨[⟨3, none, .ptr 1 0⟩, ⟨1, none, .ptr 0 0⟩], [.blk x0.enc, .opq (wrO 143 5 v2)]⟩) (gY.fin x0) hr (fun f hr => ?_) (fun v2 γ2 hr => ?_) (fun _ h => h)
   ·refine tq hΓ [73] [] ?_ (by simp; exact rr);refine AWp.cnd hr (by simp) (fun h40 hr => ?_) (fun h40 hr => ?_)
    ·obtain ⟨h41, hr⟩ := Lg hr;refine tl hΓ [] [73] ?_ (by simp [h40, h41]; exact rr);obtain rfl := La hr;exact Lp () 2 (by first | (simp; done) | simp [h24, h25, h26, h27, h28, h29, h31, h32, h33, h34, h35, h40, h41])
    ·refine AWp.skip ?_;obtain rfl := La hr;exact Lp () 2 (by first | (simp; done) | simp [h24, h25, h26, h27, h28, h29, h31, h32, h33, h34, h35, h40])
   ·refine AWp.meetF (fun (v3 : List Int) (γ3 : Unit) => ⟨[⟨3, none, .ptr 1 0⟩], [.blk x0.enc, .opq (wrO 143 5 v3)]⟩) (gY.fin x0) hr (fun f hr => ?_) (fun v3 γ3 hr => ?_) (fun _ h => h)
    ·refine tq hΓ [86] [] ?_ (by simp; exact rr);refine AWp.cnd hr (by simp) (fun h42 hr => ?_) (fun h42 hr => ?_)
     ·obtain ⟨h43, hr⟩ := Lg hr;obtain ⟨r10, h44, hr⟩ := Lb hr;obtain ⟨h45, hr⟩ := Lg hr;refine AWp.lst (AWp.regD Tryz.mixed Tryz.tyOk hΓ [] [86, 1] [] [(false, []), (false, []), (false, []), (false, []), (false, []), (false, []), (false, []), (false, []), (false, []), (false, []), (false, []), (false, []), (false, []), (false, []), (false, []), (true, [])] (by kernel_rfl) rfl (by simp [h42, h43, h44, h45]; exact rr)) ?_;obtain rfl := La hr;exact Lp () 2 (by first | (simp; done) | simp [h24, h25, h26, h27, h28, h29, h31, h32, h33, h34, h35, h42, h43, h44, h45])
     ·refine AWp.skip ?_;obtain rfl := La hr;exact Lp () 2 (by first | (simp; done) | simp [h24, h25, h26, h27, h28, h29, h31, h32, h33, h34, h35, h42])
    ·obtain ⟨h46, hr⟩ := Lg hr;refine tq hΓ [2] [3] ?_ (by simp [h46]; exact rr);obtain rfl := La hr;exact AWp.ret (Ld (by simp))
@[simp] noncomputable def gY.S : Sp
  | [.agg e0], _ => some { av := .lit (.string ((gY (Tt.dec e0)).getD dflt)), M := none, obl := WeakL e0 (Tt.enc (Tt.dec e0)) ∧ (gY (Tt.dec e0)).isSome = true }
  | _, _ => none
theorem gY.ok : qap Tryz.prog 30 gY.S := by
 intro l M out h;unfold gY.S at h;split at h
 ·rename_i e0;cases h;refine qad fun ho => ?_;obtain ⟨ox0, hs⟩ := ho;generalize (Tt.dec e0) = x0 at *
  obtain ⟨r, hr⟩ := so1 hs;simp only [hr, gd1];have q := Lf (M := M) [] (gY.can x0 r hr) (by simp) rfl ixn;exact qac q trivial (by simp; exact ox0) (by simp [qaa]) (by simp [qaa])
 ·cases h
end Go.Proofs
end
