import Derived.Test.YtpamnignoocogaaGreatDoorM04
import Derived.Test.YtpamnignoocogaaGreatDoorTy
import Derived.Test.YtpamnignoocogaaGreatDoorM12
import Derived.Test.YtpamnignoocogaaGreatDoorM18
set_option maxRecDepth 100000
set_option maxHeartbeats 4000000
namespace Go.Proofs
open Go.Ab
@[simp] def gU.out (_x0 : Int) (r : Bool) : Out := { av := .lit (.bool r), M := none }
theorem gU.can (x0 : Int) (r : Bool) (hr : gU x0 = some r) : CallOk Tryz.prog 49 [.lit (.int .i64 x0)] [] (gU.out x0 r) := by
 unfold gU at hr;have hΓ := gamL_nil (P := Tryz.prog);refine cw Tryz.func49 rfl (by kernel_rfl) rfl rfl (by simp) fun _ _ _ => ?_;refine tq hΓ [] [] ?_;refine tq hΓ [2] [0] ?_;obtain rfl := La hr;exact AWp.ret (Ld (by simp))
@[simp] noncomputable def gU.S : Sp
  | [.lit (.int .i64 x0)], _ => some { av := .lit (.bool ((gU x0).getD dflt)), M := none, obl := (gU x0).isSome = true }
  | _, _ => none
theorem gU.ok : SpecOk Tryz.prog 49 gU.S := by
 intro l M out h;unfold gU.S at h;split at h
 ·rename_i x0;cases h;refine callOk_of fun ho => ?_;have hs := ho;obtain ⟨r, hr⟩ := so1 hs;simp only [hr, gd1];have q := Lg (M := M) [] (gU.can x0 r hr) (by simp) rfl ixn;exact callOk_conv q trivial (by simp) (by simp [frameOut]) (by simp [frameOut])
 ·cases h
@[simp] def gab.out (_x0 : Int) (r : Bool) : Out := { av := .lit (.bool r), M := none }
theorem gab.can (x0 : Int) (r : Bool) (hr : gab x0 = some r) : CallOk Tryz.prog 50 [.lit (.int .i64 x0)] [] (gab.out x0 r) := by
 unfold gab at hr;have hΓ := gamL_nil (P := Tryz.prog);refine cw Tryz.func50 rfl (by kernel_rfl) rfl rfl (by simp) fun _ _ _ => ?_;refine tq hΓ [] [] ?_;refine tq hΓ [2] [0] ?_;obtain rfl := La hr;exact AWp.ret (Ld (by simp))
@[simp] noncomputable def gab.S : Sp
  | [.lit (.int .i64 x0)], _ => some { av := .lit (.bool ((gab x0).getD dflt)), M := none, obl := (gab x0).isSome = true }
  | _, _ => none
theorem gab.ok : SpecOk Tryz.prog 50 gab.S := by
 intro l M out h;unfold gab.S at h;split at h
 ·rename_i x0;cases h;refine callOk_of fun ho => ?_;have hs := ho;obtain ⟨r, hr⟩ := so1 hs;simp only [hr, gd1];have q := Lg (M := M) [] (gab.can x0 r hr) (by simp) rfl ixn;exact callOk_conv q trivial (by simp) (by simp [frameOut]) (by simp [frameOut])
 ·cases h
@[simp] def gQ.out (_x0 : Int) (r : Bool) : Out := { av := .lit (.bool r), M := none }
theorem gQ.can (x0 : Int) (r : Bool) (hr : gQ x0 = some r) : CallOk Tryz.prog 51 [.lit (.int .i64 x0)] [] (gQ.out x0 r) := by
 unfold gQ at hr;have hΓ := gamL_nil (P := Tryz.prog);refine cw Tryz.func51 rfl (by kernel_rfl) rfl rfl (by simp) fun _ _ _ => ?_;refine tq hΓ [] [] ?_;refine tq hΓ [2] [0] ?_;obtain rfl := La hr;exact AWp.ret (Ld (by simp))
@[simp] noncomputable def gQ.S : Sp
  | [.lit (.int .i64 x0)], _ => some { av := .lit (.bool ((gQ x0).getD dflt)), M := none, obl := (gQ x0).isSome = true }
  | _, _ => none
theorem gQ.ok : SpecOk Tryz.prog 51 gQ.S := by
 intro l M out h;unfold gQ.S at h;split at h
 ·rename_i x0;cases h;refine callOk_of fun ho => ?_;have hs := ho;obtain ⟨r, hr⟩ := so1 hs;simp only [hr, gd1];have q := Lg (M := M) [] (gQ.can x0 r hr) (by simp) rfl ixn;exact callOk_conv q trivial (by simp) (by simp [frameOut]) (by simp [frameOut])
 ·cases h
@[simp] def gX.out (_x0 : Int) (r : Bool) : Out := { av := .lit (.bool r), M := none }
theorem gX.can (x0 : Int) (r : Bool) (hr : gX x0 = some r) : CallOk Tryz.prog 52 [.lit (.int .i64 x0)] [] (gX.out x0 r) := by
 unfold gX at hr;have hΓ := gamL_nil (P := Tryz.prog);refine cw Tryz.func52 rfl (by kernel_rfl) rfl rfl (by simp) fun _ _ _ => ?_;refine tq hΓ [] [] ?_;refine tq hΓ [2] [0] ?_;obtain rfl := La hr;exact AWp.ret (Ld (by simp))
@[simp] noncomputable def gX.S : Sp
  | [.lit (.int .i64 x0)], _ => some { av := .lit (.bool ((gX x0).getD dflt)), M := none, obl := (gX x0).isSome = true }
  | _, _ => none
theorem gX.ok : SpecOk Tryz.prog 52 gX.S := by
 intro l M out h;unfold gX.S at h;split at h
 ·rename_i x0;cases h;refine callOk_of fun ho => ?_;have hs := ho;obtain ⟨r, hr⟩ := so1 hs;simp only [hr, gd1];have q := Lg (M := M) [] (gX.can x0 r hr) (by simp) rfl ixn;exact callOk_conv q trivial (by simp) (by simp [frameOut]) (by simp [frameOut])
 ·cases h
@[simp] def gc.out (_x0 : Ta) (r : Int) : Out := { av := .lit (.int .i64 r), M := none }
def gc.fin (x0 : Ta) (r : Int) (σ : St) : Prop := finK (gc.out x0 r) [] σ.M (resA Tryz.ty σ.A σ.M Tryz.f53.results.toList)
theorem gc.can (x0 : Ta) (r : Int) (hr : gc x0 = some r) : CallOk Tryz.prog 53 [.agg [.lit (.int .i64 x0.fb), .lit (.string x0.fd), .lit (.string x0.ff), .lit (.int .i64 x0.fc), .lit (.int .i64 x0.fOf), .lit (.int .i64 x0.fg), .lit (.int .i64 x0.fh), .lit (.bool x0.fOn), .lit (.bool x0.fe), .sl (x0.fa.map (eNum .u32)) .no]] [] (gc.out x0 r) := by
 unfold gc at hr;have hΓ := gamL_nil (P := Tryz.prog);refine cw Tryz.func53 rfl (by kernel_rfl) rfl rfl (by simp) fun _ _ _ => ?_;refine tq hΓ [1] [0] ?_;refine AWp.seq ?_;refine tq hΓ [25] [] ?_;refine AWp.cnd hr (by simp) (fun h7 hr => ?_) (fun h7 hr => ?_)
 ·refine tq hΓ [2] [25, 1] ?_ (by simp [h7]; exact rr);obtain rfl := La hr;exact AWp.ret (Ld (by simp))
 ·refine AWp.skip ?_;refine AWp.seq ?_;refine tq hΓ [28, 29] [25] ?_ (by simp [h7]; exact rr);refine AWp.loopE (fun (s1 : Int) (γ1 : Unit) => ⟨[⟨28, none, .n (lenL x0.fa)⟩, ⟨29, none, .n s1⟩, ⟨1, none, .ptr 0 0⟩], [.blk x0.enc]⟩) (fun (v1 : Unit) (γ1a : Unit) => ⟨[], [.blk x0.enc]⟩) (gc.fin x0) hr () 1 (by simp) (fun s1 f γ1 hr => ?_) (fun v1 γ1a σ1 m1 hr hc => ?_) (fun _ h => h)
  ·unfold gc.loop1 at hr;refine tq hΓ [30] [] ?_ (by simp; exact rr);refine AWp.seq ?_;refine AWp.cnd hr (by simp) (fun h8 hr => ?_) (fun h8 hr => ?_)
   ·refine AWp.skip ?_;refine AWp.seq ?_;refine AWp.block ?_;refine tq hΓ [3] [30] ?_ (by simp [h8]; exact rr);refine tq hΓ [4] [] ?_ (by simp; exact rr);refine AWp.loopE (fun (s2 : Int) (γ2 : Unit) => ⟨[⟨4, none, .n s2⟩, ⟨3, none, .n s1⟩, ⟨28, none, .n (lenL x0.fa)⟩, ⟨29, none, .n s1⟩, ⟨1, none, .ptr 0 0⟩], [.blk x0.enc]⟩) (fun (v2 : Unit) (γ2a : Unit) => ⟨[⟨28, none, .n (lenL x0.fa)⟩, ⟨29, none, .n s1⟩, ⟨1, none, .ptr 0 0⟩], [.blk x0.enc]⟩) (QRr (gc.fin x0)) hr () 1 (by simp) (fun s2 f γ2 hr => ?_) (fun v2 γ2a σ1 m1 hr hc => ?_) (fun _ h => QRr_ret h)
    ·unfold gc.loop2 at hr;refine AWp.seq ?_;refine tq hΓ [34] [] ?_ (by simp; exact rr);refine AWp.cnd hr (by simp) (fun h9 hr => ?_) (fun h9 hr => ?_)
     ·refine AWp.skip ?_;refine AWp.seq ?_;refine AWp.block ?_;obtain ⟨h10, hr⟩ := Lb hr;obtain ⟨h11, hr⟩ := Lb hr;refine td hΓ [47] [34] [] [(false, []), (false, []), (false, []), (false, []), (false, []), (false, []), (false, []), (false, []), (false, []), (false, []), (false, [])] (by simp [h9, h10, h11]; exact rr) ?_;refine AWp.cnd hr (by simp) (fun h12 hr => ?_) (fun h12 hr => ?_)
      ·refine tq hΓ [2] [47, 4, 3, 28, 29, 1] ?_ (by simp [h12]; exact rr);refine AWp.ret ?_;obtain rfl := La hr;refine round_ret ?_;refine ⟨_, rfl, ?_⟩;refine Ld ?_;simp
      ·refine AWp.skip ?_;refine tl hΓ [4] [47] ?_ (by simp [h12]; exact rr);obtain rfl := La hr;exact Lo () 1 (by first | (simp; done) | simp [h7, h8, h9, h10, h11, h12])
     ·refine AWp.exit ?_;obtain rfl := La hr;exact Lp () 1 (by first | (simp; done) | simp [h7, h8, h9])
    ·refine AWp.conv hc ?_;refine tl hΓ [29] [] ?_ (by simp; exact rr);obtain rfl := La hr;exact Lo () 1 (by first | (simp; done) | simp [h7, h8])
   ·refine AWp.exit ?_;obtain rfl := La hr;exact Lp () 1 (by first | (simp; done) | simp [h7, h8])
  ·refine AWp.conv hc ?_;refine tq hΓ [2] [] ?_ (by simp; exact rr);obtain rfl := La hr;exact AWp.ret (Ld (by simp))
@[simp] noncomputable def gc.S : Sp
  | [.agg e0], _ => some { av := .lit (.int .i64 ((gc (Ta.dec e0)).getD dflt)), M := none, obl := WeakL e0 (Ta.enc (Ta.dec e0)) ∧ (gc (Ta.dec e0)).isSome = true }
  | _, _ => none
theorem gc.ok : SpecOk Tryz.prog 53 gc.S := by
 intro l M out h;unfold gc.S at h;split at h
 ·rename_i e0;cases h;refine callOk_of fun ho => ?_;obtain ⟨ox0, hs⟩ := ho;generalize (Ta.dec e0) = x0 at *
  obtain ⟨r, hr⟩ := so1 hs;simp only [hr, gd1];have q := Lg (M := M) [] (gc.can x0 r hr) (by simp) rfl ixn;exact callOk_conv q trivial (by simp; exact ox0) (by simp [frameOut]) (by simp [frameOut])
 ·cases h
@[simp] def gP.out (_x0 : Ta) (r : Int) : Out := { av := .lit (.int .i64 r), M := none }
theorem gP.can (x0 : Ta) (r : Int) (hr : gP x0 = some r) : CallOk Tryz.prog 26 [.agg [.lit (.int .i64 x0.fb), .lit (.string x0.fd), .lit (.string x0.ff), .lit (.int .i64 x0.fc), .lit (.int .i64 x0.fOf), .lit (.int .i64 x0.fg), .lit (.int .i64 x0.fh), .lit (.bool x0.fOn), .lit (.bool x0.fe), .sl (x0.fa.map (eNum .u32)) .no]] [] (gP.out x0 r) := by
 unfold gP at hr;have hΓ := (gamL_cons gF.ok (gamL_cons gX.ok (gamL_cons gab.ok (gamL_cons gU.ok (gamL_cons gc.ok (gamL_cons gQ.ok (gamL_nil)))))) : GamOk Tryz.prog _);refine cw Tryz.func26 rfl (by kernel_rfl) rfl rfl (by simp) fun _ _ _ => ?_;refine tq hΓ [1] [0] ?_;refine tq hΓ [3] [] ?_;refine AWp.seq ?_;refine tq hΓ [11] [] ?_;refine AWp.cnd hr (by simp) (fun h15 hr => ?_) (fun h15 hr => ?_)
 ·refine tq hΓ [2] [11, 3, 1] ?_ (by simp [h15]; exact rr);obtain rfl := La hr;exact AWp.ret (Ld (by simp))
 ·refine AWp.skip ?_;refine AWp.seq ?_;obtain ⟨h16, hr⟩ := Lb hr;obtain ⟨h17, hr⟩ := Lb hr;obtain ⟨h18, hr⟩ := Lb hr;refine tq hΓ [53] [11] ?_ (by simp [h15, h16, h17, h18]; exact rr);refine AWp.cnd hr (by simp) (fun h19 hr => ?_) (fun h19 hr => ?_)
  ·refine tq hΓ [2] [53, 3, 1] ?_ (by simp [h19]; exact rr);obtain rfl := La hr;exact AWp.ret (Ld (by simp))
  ·refine AWp.skip ?_;refine AWp.seq ?_;refine tq hΓ [86] [53] ?_ (by simp [h19]; exact rr);refine AWp.cnd hr (by simp) (fun h20 hr => ?_) (fun h20 hr => ?_)
   ·refine tq hΓ [2] [86, 3, 1] ?_ (by simp [h20]; exact rr);obtain rfl := La hr;exact AWp.ret (Ld (by simp))
   ·refine AWp.skip ?_;refine AWp.seq ?_;obtain ⟨r1, h21, hr⟩ := Le hr;obtain ⟨h22, hr⟩ := Lb hr;refine tq hΓ [116] [86] ?_ (by simp [h20, h21, h22]; exact rr);refine AWp.cnd hr (by simp) (fun h23 hr => ?_) (fun h23 hr => ?_)
    ·refine tq hΓ [2] [116, 3, 1] ?_ (by simp [h23]; exact rr);obtain rfl := La hr;exact AWp.ret (Ld (by simp))
    ·refine AWp.skip ?_;refine AWp.seq ?_;obtain ⟨h24, hr⟩ := Lb hr;obtain ⟨h25, hr⟩ := Lb hr;refine tq hΓ [130] [116] ?_ (by simp [h23, h24, h25]; exact rr);refine AWp.cnd hr (by simp) (fun h26 hr => ?_) (fun h26 hr => ?_)
     ·refine tq hΓ [2] [130, 3, 1] ?_ (by simp [h26]; exact rr);obtain rfl := La hr;exact AWp.ret (Ld (by simp))
     ·refine AWp.skip ?_;refine AWp.seq ?_;refine tq hΓ [132] [130, 3] ?_ (by simp [h26]; exact rr);refine AWp.cnd hr (by simp) (fun h27 hr => ?_) (fun h27 hr => ?_)
      ·obtain ⟨r2, h28, hr⟩ := Le hr;refine tq hΓ [2] [132, 1] ?_ (by simp [h27, h28]; exact rr);obtain rfl := La hr;exact AWp.ret (Ld (by simp))
      ·refine AWp.skip ?_;refine tq hΓ [2] [132, 1] ?_ (by simp [h27]; exact rr);obtain rfl := La hr;exact AWp.ret (Ld (by simp))
@[simp] noncomputable def gP.S : Sp
  | [.agg e0], _ => some { av := .lit (.int .i64 ((gP (Ta.dec e0)).getD dflt)), M := none, obl := WeakL e0 (Ta.enc (Ta.dec e0)) ∧ (gP (Ta.dec e0)).isSome = true }
  | _, _ => none
theorem gP.ok : SpecOk Tryz.prog 26 gP.S := by
 intro l M out h;unfold gP.S at h;split at h
 ·rename_i e0;cases h;refine callOk_of fun ho => ?_;obtain ⟨ox0, hs⟩ := ho;generalize (Ta.dec e0) = x0 at *
  obtain ⟨r, hr⟩ := so1 hs;simp only [hr, gd1];have q := Lg (M := M) [] (gP.can x0 r hr) (by simp) rfl ixn;exact callOk_conv q trivial (by simp; exact ox0) (by simp [frameOut]) (by simp [frameOut])
 ·cases h
@[simp] def gag.out (_x0 : Bool) (r : ByteArray) : Out := { av := .lit (.string r), M := none }
theorem gag.can (x0 : Bool) (r : ByteArray) (hr : gag x0 = some r) : CallOk Tryz.prog 55 [.lit (.bool x0)] [] (gag.out x0 r) := by
 unfold gag at hr;have hΓ := gamL_nil (P := Tryz.prog);refine cw Tryz.func55 rfl (by kernel_rfl) rfl rfl (by simp) fun _ _ _ => ?_;refine tq hΓ [] [] ?_;refine AWp.seq ?_;refine tq hΓ [3] [0] ?_;refine AWp.cnd hr (by simp) (fun h2 hr => ?_) (fun h2 hr => ?_)
 ·refine tq hΓ [2] [3] ?_ (by simp [h2]; exact rr);obtain rfl := La hr;exact AWp.ret (Ld (by simp))
 ·refine AWp.skip ?_;refine tq hΓ [2] [3] ?_ (by simp [h2]; exact rr);obtain rfl := La hr;exact AWp.ret (Ld (by simp))
@[simp] noncomputable def gag.S : Sp
  | [.lit (.bool x0)], _ => some { av := .lit (.string ((gag x0).getD dflt)), M := none, obl := (gag x0).isSome = true }
  | _, _ => none
theorem gag.ok : SpecOk Tryz.prog 55 gag.S := by
 intro l M out h;unfold gag.S at h;split at h
 ·rename_i x0;cases h;refine callOk_of fun ho => ?_;have hs := ho;obtain ⟨r, hr⟩ := so1 hs;simp only [hr, gd1];have q := Lg (M := M) [] (gag.can x0 r hr) (by simp) rfl ixn;exact callOk_conv q trivial (by simp) (by simp [frameOut]) (by simp [frameOut])
 ·cases h
@[simp] def gD.out (_x0 : Ta) (r : ByteArray) : Out := { av := .lit (.string r), M := none }
def gD.fin (x0 : Ta) (r : ByteArray) (σ : St) : Prop := finK (gD.out x0 r) [] σ.M (resA Tryz.ty σ.A σ.M Tryz.f27.results.toList)
theorem gD.can (x0 : Ta) (r : ByteArray) (hr : gD x0 = some r) : CallOk Tryz.prog 27 [.agg [.lit (.int .i64 x0.fb), .lit (.string x0.fd), .lit (.string x0.ff), .lit (.int .i64 x0.fc), .lit (.int .i64 x0.fOf), .lit (.int .i64 x0.fg), .lit (.int .i64 x0.fh), .lit (.bool x0.fOn), .lit (.bool x0.fe), .sl (x0.fa.map (eNum .u32)) .no]] [] (gD.out x0 r) := by
 unfold gD at hr;have hΓ := (gamL_cons gC.ok (gamL_cons gag.ok (gamL_cons gab.ok (gamL_cons gQ.ok (gamL_nil)))) : GamOk Tryz.prog _);refine cw Tryz.func27 rfl (by kernel_rfl) rfl rfl (by simp) fun _ _ _ => ?_;refine tq hΓ [1] [0] ?_;refine tq hΓ [3] [] ?_;obtain ⟨r1, h34, hr⟩ := Le hr;refine tq hΓ [4] [] ?_ (by simp [h34]; exact rr);refine AWp.seq ?_;refine tq hΓ [13] [] ?_ (by simp; exact rr);refine AWp.cnd hr (by simp) (fun h35 hr => ?_) (fun h35 hr => ?_)
 ·obtain ⟨r2, h36, hr⟩ := Le hr;obtain ⟨h37, hr⟩ := Lb hr;obtain ⟨h38, hr⟩ := Lb hr;obtain ⟨r3, h39, hr⟩ := Le hr;obtain ⟨h40, hr⟩ := Lb hr;obtain ⟨h41, hr⟩ := Lb hr;refine td hΓ [2] [13, 4, 3, 1] [] [(false, []), (false, []), (false, []), (false, []), (false, []), (false, []), (false, []), (false, []), (false, []), (false, []), (false, []), (false, []), (false, []), (false, []), (false, []), (false, []), (false, []), (false, []), (false, []), (false, [])] (by simp [h35, h36, h37, h38, h39, h40, h41]; exact rr) ?_;obtain rfl := La hr;exact AWp.ret (Ld (by simp))
 ·refine AWp.skip ?_;obtain ⟨r4, h42, hr⟩ := Le hr;obtain ⟨h43, hr⟩ := Lb hr;refine tq hΓ [4] [13] ?_ (by simp [h35, h42, h43]; exact rr);refine AWp.meetF (fun (v1 : ByteArray) (γ1 : Unit) => ⟨[⟨4, none, .s v1⟩, ⟨3, none, .n x0.fb⟩, ⟨1, none, .ptr 0 0⟩], [.blk x0.enc]⟩) (gD.fin x0) hr (fun f hr => ?_) (fun v1 γ1 hr => ?_) (fun _ h => h)
  ·obtain ⟨r5, h44, hr⟩ := Le hr;refine tq hΓ [40] [] ?_ (by simp [h44]; exact rr);refine AWp.cnd hr (by simp) (fun h45 hr => ?_) (fun h45 hr => ?_)
   ·obtain ⟨r6, h46, hr⟩ := Le hr;obtain ⟨h47, hr⟩ := Lb hr;refine tl hΓ [4] [40] ?_ (by simp [h45, h46, h47]; exact rr);obtain rfl := La hr;exact meet_go () 1 (by first | (simp; done) | simp [h34, h35, h42, h43, h44, h45, h46, h47])
   ·refine AWp.skip ?_;obtain rfl := La hr;exact meet_go () 1 (by first | (simp; done) | simp [h34, h35, h42, h43, h44, h45])
  ·refine AWp.meetF (fun (v2 : ByteArray) (γ2 : Unit) => ⟨[⟨4, none, .s v2⟩, ⟨3, none, .n x0.fb⟩, ⟨1, none, .ptr 0 0⟩], [.blk x0.enc]⟩) (gD.fin x0) hr (fun f hr => ?_) (fun v2 γ2 hr => ?_) (fun _ h => h)
   ·obtain ⟨r7, h48, hr⟩ := Le hr;refine tq hΓ [48] [] ?_ (by simp [h48]; exact rr);refine AWp.cnd hr (by simp) (fun h49 hr => ?_) (fun h49 hr => ?_)
    ·obtain ⟨r8, h50, hr⟩ := Le hr;obtain ⟨h51, hr⟩ := Lb hr;refine tl hΓ [4] [48] ?_ (by simp [h49, h50, h51]; exact rr);obtain rfl := La hr;exact meet_go () 1 (by first | (simp; done) | simp [h34, h35, h42, h43, h48, h49, h50, h51])
    ·refine AWp.skip ?_;obtain rfl := La hr;exact meet_go () 1 (by first | (simp; done) | simp [h34, h35, h42, h43, h48, h49])
   ·refine AWp.meetF (fun (v3 : ByteArray) (γ3 : Unit) => ⟨[⟨4, none, .s v3⟩, ⟨3, none, .n x0.fb⟩, ⟨1, none, .ptr 0 0⟩], [.blk x0.enc]⟩) (gD.fin x0) hr (fun f hr => ?_) (fun v3 γ3 hr => ?_) (fun _ h => h)
    ·refine tq hΓ [56] [] ?_ (by simp; exact rr);refine AWp.cnd hr (by simp) (fun h52 hr => ?_) (fun h52 hr => ?_)
     ·obtain ⟨r9, h53, hr⟩ := Le hr;obtain ⟨h54, hr⟩ := Lb hr;refine tl hΓ [4] [56] ?_ (by simp [h52, h53, h54]; exact rr);obtain rfl := La hr;exact meet_go () 1 (by first | (simp; done) | simp [h34, h35, h42, h43, h52, h53, h54])
     ·refine AWp.skip ?_;obtain rfl := La hr;exact meet_go () 1 (by first | (simp; done) | simp [h34, h35, h42, h43, h52])
    ·refine AWp.meetF (fun (v4 : ByteArray) (γ4 : Unit) => ⟨[⟨4, none, .s v4⟩, ⟨3, none, .n x0.fb⟩, ⟨1, none, .ptr 0 0⟩], [.blk x0.enc]⟩) (gD.fin x0) hr (fun f hr => ?_) (fun v4 γ4 hr => ?_) (fun _ h => h)
     ·refine tq hΓ [64] [] ?_ (by simp; exact rr);refine AWp.cnd hr (by simp) (fun h55 hr => ?_) (fun h55 hr => ?_)
      ·obtain ⟨r10, h56, hr⟩ := Le hr;obtain ⟨h57, hr⟩ := Lb hr;refine tl hΓ [4] [64] ?_ (by simp [h55, h56, h57]; exact rr);obtain rfl := La hr;exact meet_go () 1 (by first | (simp; done) | simp [h34, h35, h42, h43, h55, h56, h57])
      ·refine AWp.skip ?_;obtain rfl := La hr;exact meet_go () 1 (by first | (simp; done) | simp [h34, h35, h42, h43, h55])
     ·refine AWp.meetF (fun (v5 : ByteArray) (γ5 : Unit) => ⟨[⟨4, none, .s v5⟩], [.blk x0.enc]⟩) (gD.fin x0) hr (fun f hr => ?_) (fun v5 γ5 hr => ?_) (fun _ h => h)
      ·refine tq hΓ [71] [3] ?_ (by simp; exact rr);refine AWp.cnd hr (by simp) (fun h58 hr => ?_) (fun h58 hr => ?_)
       ·obtain ⟨r11, h59, hr⟩ := Le hr;obtain ⟨r12, h60, hr⟩ := Le hr;obtain ⟨h61, hr⟩ := Lb hr;obtain ⟨h62, hr⟩ := Lb hr;refine td hΓ [4] [71] [] [(false, []), (false, []), (false, []), (false, []), (false, []), (false, []), (false, []), (false, []), (false, []), (false, []), (false, []), (false, [])] (by simp [h58, h59, h60, h61, h62]; exact rr) ?_;refine tq hΓ [84, 85, 86] [1] ?_ (by simp; exact rr);refine AWp.loopE (fun (s6 : Int × ByteArray) (γ6 : Unit) => ⟨[⟨84, none, .sl (x0.fa.map (eNum .u32)) .no⟩, ⟨85, none, .n (lenL x0.fa)⟩, ⟨86, none, .n s6.1⟩, ⟨4, none, .s s6.2⟩], [.blk x0.enc]⟩) (fun (v6 : ByteArray) (γ6a : Unit) => ⟨[⟨4, none, .s v6⟩], [.blk x0.enc]⟩) (QRm (gD.fin x0)) hr () 1 (by simp) (fun s6 f γ6 hr => ?_) (fun v6 γ6a σ1 m1 hr hc => ?_) (fun _ h => QRm_ret h)
        ·unfold gD.loop6 at hr;refine tq hΓ [87] [] ?_ (by simp; exact rr);refine AWp.seq ?_;refine AWp.cnd hr (by simp) (fun h63 hr => ?_) (fun h63 hr => ?_)
         ·refine AWp.skip ?_;refine AWp.seq ?_;refine AWp.block ?_;obtain ⟨h64, hr⟩ := Lb hr;refine tq hΓ [6] [87] ?_ (by simp [h63, h64]; exact rr);obtain ⟨r13, h65, hr⟩ := Le hr;obtain ⟨h66, hr⟩ := Lb hr;refine tl hΓ [4] [6] ?_ (by simp [h65, h66]; exact rr);refine tl hΓ [86] [] ?_ (by simp; exact rr);obtain rfl := La hr;exact Lo () 1 (by first | (simp; done) | simp [h34, h35, h42, h43, h58, h59, h60, h61, h62, h63, h64, h65, h66])
         ·refine AWp.exit ?_;obtain rfl := La hr;exact Lp () 1 (by first | (simp; done) | simp [h34, h35, h42, h43, h58, h59, h60, h61, h62, h63])
        ·obtain rfl := La hr;exact meet_go () 1 (Conv.trans hc (by first | (simp; done) | simp [h34, h35, h42, h43, h58, h59, h60, h61, h62]))
       ·refine AWp.skip ?_;obtain rfl := La hr;exact meet_go () 1 (by first | (simp; done) | simp [h34, h35, h42, h43, h58])
      ·refine tq hΓ [2] [4] ?_ (by simp; exact rr);obtain rfl := La hr;exact AWp.ret (Ld (by simp))
@[simp] noncomputable def gD.S : Sp
  | [.agg e0], _ => some { av := .lit (.string ((gD (Ta.dec e0)).getD dflt)), M := none, obl := WeakL e0 (Ta.enc (Ta.dec e0)) ∧ (gD (Ta.dec e0)).isSome = true }
  | _, _ => none
theorem gD.ok : SpecOk Tryz.prog 27 gD.S := by
 intro l M out h;unfold gD.S at h;split at h
 ·rename_i e0;cases h;refine callOk_of fun ho => ?_;obtain ⟨ox0, hs⟩ := ho;generalize (Ta.dec e0) = x0 at *
  obtain ⟨r, hr⟩ := so1 hs;simp only [hr, gd1];have q := Lg (M := M) [] (gD.can x0 r hr) (by simp) rfl ixn;exact callOk_conv q trivial (by simp; exact ox0) (by simp [frameOut]) (by simp [frameOut])
 ·cases h
end Go.Proofs
