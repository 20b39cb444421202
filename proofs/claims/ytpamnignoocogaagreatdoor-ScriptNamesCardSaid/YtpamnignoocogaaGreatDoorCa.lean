import Derived.Test.YtpamnignoocogaaGreatDoorM08
import Derived.Test.YtpamnignoocogaaGreatDoorTy
import Derived.Test.YtpamnignoocogaaGreatDoorM12
import Derived.Test.YtpamnignoocogaaGreatDoorM14
import Derived.Test.YtpamnignoocogaaGreatDoorM20
import Derived.Test.YtpamnignoocogaaGreatDoorM16
set_option maxRecDepth 100000
set_option maxHeartbeats 4000000
namespace Go.Proofs
open Go.Ab
@[simp] def gO.out (_x0 : Int) (r : ByteArray) : Out := { av := .lit (.string r), M := none }
theorem gO.can (x0 : Int) (r : ByteArray) (hr : gO x0 = some r) : CallOk Tryz.prog 63 [.lit (.int .i64 x0)] [] (gO.out x0 r) := by
 unfold gO at hr;have hΓ := gamL_nil (P := Tryz.prog);refine cw Tryz.func63 rfl (by kernel_rfl) rfl rfl (by simp) fun _ _ _ => ?_;refine tq hΓ [] [] ?_;refine AWp.seq ?_;refine tq hΓ [3] [0] ?_;refine AWp.block ?_;refine tq hΓ [4] [] ?_;refine AWp.cnd hr (by simp) (fun h9 hr => ?_) (fun h9 hr => ?_)
 ·refine tq hΓ [2] [4, 3] ?_ (by simp [h9]; exact rr);obtain rfl := La hr;exact AWp.ret (Le (by simp))
 ·refine tq hΓ [6] [4] ?_ (by simp [h9]; exact rr);refine AWp.cnd hr (by simp) (fun h10 hr => ?_) (fun h10 hr => ?_)
  ·refine tq hΓ [2] [6, 3] ?_ (by simp [h10]; exact rr);obtain rfl := La hr;exact AWp.ret (Le (by simp))
  ·refine tq hΓ [8] [6] ?_ (by simp [h10]; exact rr);refine AWp.cnd hr (by simp) (fun h11 hr => ?_) (fun h11 hr => ?_)
   ·refine tq hΓ [2] [8, 3] ?_ (by simp [h11]; exact rr);obtain rfl := La hr;exact AWp.ret (Le (by simp))
   ·refine tq hΓ [10] [8] ?_ (by simp [h11]; exact rr);refine AWp.cnd hr (by simp) (fun h12 hr => ?_) (fun h12 hr => ?_)
    ·refine tq hΓ [2] [10, 3] ?_ (by simp [h12]; exact rr);obtain rfl := La hr;exact AWp.ret (Le (by simp))
    ·refine tq hΓ [12] [10] ?_ (by simp [h12]; exact rr);refine AWp.cnd hr (by simp) (fun h13 hr => ?_) (fun h13 hr => ?_)
     ·refine tq hΓ [2] [12, 3] ?_ (by simp [h13]; exact rr);obtain rfl := La hr;exact AWp.ret (Le (by simp))
     ·refine tq hΓ [14] [12] ?_ (by simp [h13]; exact rr);refine AWp.cnd hr (by simp) (fun h14 hr => ?_) (fun h14 hr => ?_)
      ·refine tq hΓ [2] [14, 3] ?_ (by simp [h14]; exact rr);obtain rfl := La hr;exact AWp.ret (Le (by simp))
      ·refine tq hΓ [16] [14] ?_ (by simp [h14]; exact rr);refine AWp.cnd hr (by simp) (fun h15 hr => ?_) (fun h15 hr => ?_)
       ·refine tq hΓ [2] [16, 3] ?_ (by simp [h15]; exact rr);obtain rfl := La hr;exact AWp.ret (Le (by simp))
       ·refine tq hΓ [18] [16, 3] ?_ (by simp [h15]; exact rr);refine AWp.cnd hr (by simp) (fun h16 hr => ?_) (fun h16 hr => ?_)
        ·refine tq hΓ [2] [18] ?_ (by simp [h16]; exact rr);obtain rfl := La hr;exact AWp.ret (Le (by simp))
        ·refine AWp.skip ?_;refine tq hΓ [2] [18] ?_ (by simp [h16]; exact rr);obtain rfl := La hr;exact AWp.ret (Le (by simp))
@[simp] noncomputable def gO.S : Sp
  | [.lit (.int .i64 x0)], _ => some { av := .lit (.string ((gO x0).getD dflt)), M := none, obl := (gO x0).isSome = true }
  | _, _ => none
theorem gO.ok : SpecOk Tryz.prog 63 gO.S := by
 intro l M out h;unfold gO.S at h;split at h
 ·rename_i x0;cases h;refine callOk_of fun ho => ?_;have hs := ho;obtain ⟨r, hr⟩ := so1 hs;simp only [hr, gd1];have q := Lh (M := M) [] (gO.can x0 r hr) (by simp) rfl ixn;exact callOk_conv q trivial (by simp) (by simp [frameOut]) (by simp [frameOut])
 ·cases h
@[simp] def gz.out (_x0 : Int) (_x1 : Int) (r : Bool) : Out := { av := .lit (.bool r), M := none }
def gz.fin (x0 : Int) (x1 : Int) (r : Bool) (σ : St) : Prop := finK (gz.out x0 x1 r) [] σ.M (resA Tryz.ty σ.A σ.M Tryz.f97.results.toList)
theorem gz.can (x0 : Int) (x1 : Int) (r : Bool) (hr : gz x0 x1 = some r) : CallOk Tryz.prog 97 [.lit (.int .i64 x0), .lit (.int .i32 x1)] [] (gz.out x0 x1 r) := by
 unfold gz at hr;have hΓ := (gamL_cons gO.ok (gamL_nil) : GamOk Tryz.prog _);refine cw Tryz.func97 rfl (by kernel_rfl) rfl rfl (by simp) fun _ _ _ => ?_;refine tq hΓ [] [] ?_;refine AWp.seq ?_;obtain ⟨r1, h4, hr⟩ := Ld hr;refine tq hΓ [9] [0] ?_ (by simp [h4]; exact rr);refine AWp.loopE (fun (s1 : Nat) (γ1 : Unit) => ⟨[⟨9, none, .it 0⟩, ⟨1, none, .lit (.int .i32 x1)⟩], [.iter r1 s1]⟩) (fun (v1 : Unit) (γ1a : Unit) => ⟨[], [.dead]⟩) (gz.fin x0 x1) hr () 1 (by simp) (fun s1 f γ1 hr => ?_) (fun v1 γ1a σ1 m1 hr hc => ?_) (fun _ h => h)
 ·unfold gz.loop1 at hr;cases h5 : (nextB r1 s1) with
  | true =>
    have hr := cond_t h5 hr;refine tq hΓ [10, 11] [] ?_ (by simp [h5]; exact rr);refine AWp.seq ?_;refine AWp.cond (b := true) (by simp) (fun hb => ?_) (fun hb => ?_)
    ·refine AWp.skip ?_;refine AWp.block ?_;refine tq hΓ [6] [10, 11] ?_ (by simp; exact rr);refine tq hΓ [15] [6] ?_ (by simp; exact rr);refine AWp.cnd hr (by simp) (fun h6 hr => ?_) (fun h6 hr => ?_)
     ·refine tq hΓ [4] [15, 9, 1] ?_ (by simp [h6]; exact rr);refine AWp.ret ?_;obtain rfl := La hr;refine round_ret ?_;refine Le ?_;simp
     ·refine AWp.skip ?_;obtain rfl := La hr;exact Lo () 1 (by first | (simp; done) | simp [h4, h5, h6])
    ·cases hb
  | false =>
    have hr := cond_f h5 hr;refine tq hΓ [10, 11] [] ?_ (by simp [h5]; exact rr);refine AWp.seq ?_;refine AWp.cond (b := false) (by simp) (fun hb => ?_) (fun hb => ?_)
    ·cases hb
    ·refine AWp.exit ?_;obtain rfl := La hr;exact Lr () 1 (by first | (simp; done) | simp [h4, h5])
 ·refine AWp.conv hc ?_;refine tq hΓ [4] [] ?_ (by simp; exact rr);obtain rfl := La hr;exact AWp.ret (Le (by simp))
@[simp] noncomputable def gz.S : Sp
  | [.lit (.int .i64 x0), .lit (.int .i32 x1)], _ => some { av := .lit (.bool ((gz x0 x1).getD dflt)), M := none, obl := (gz x0 x1).isSome = true }
  | _, _ => none
theorem gz.ok : SpecOk Tryz.prog 97 gz.S := by
 intro l M out h;unfold gz.S at h;split at h
 ·rename_i x0 x1;cases h;refine callOk_of fun ho => ?_;have hs := ho;obtain ⟨r, hr⟩ := so1 hs;simp only [hr, gd1];have q := Lh (M := M) [] (gz.can x0 x1 r hr) (by simp) rfl ixn;exact callOk_conv q trivial (by simp) (by simp [frameOut]) (by simp [frameOut])
 ·cases h
@[simp] def gU.out (_x0 : Int) (r : Bool) : Out := { av := .lit (.bool r), M := none }
theorem gU.can (x0 : Int) (r : Bool) (hr : gU x0 = some r) : CallOk Tryz.prog 65 [.lit (.int .i64 x0)] [] (gU.out x0 r) := by
 unfold gU at hr;have hΓ := gamL_nil (P := Tryz.prog);refine cw Tryz.func65 rfl (by kernel_rfl) rfl rfl (by simp) fun _ _ _ => ?_;refine tq hΓ [] [] ?_;refine tq hΓ [2] [0] ?_;obtain rfl := La hr;exact AWp.ret (Le (by simp))
@[simp] noncomputable def gU.S : Sp
  | [.lit (.int .i64 x0)], _ => some { av := .lit (.bool ((gU x0).getD dflt)), M := none, obl := (gU x0).isSome = true }
  | _, _ => none
theorem gU.ok : SpecOk Tryz.prog 65 gU.S := by
 intro l M out h;unfold gU.S at h;split at h
 ·rename_i x0;cases h;refine callOk_of fun ho => ?_;have hs := ho;obtain ⟨r, hr⟩ := so1 hs;simp only [hr, gd1];have q := Lh (M := M) [] (gU.can x0 r hr) (by simp) rfl ixn;exact callOk_conv q trivial (by simp) (by simp [frameOut]) (by simp [frameOut])
 ·cases h
@[simp] def gu.out (_x0 : Ta) (r : Bool) : Out := { av := .lit (.bool r), M := none }
def gu.fin (x0 : Ta) (r : Bool) (σ : St) : Prop := finK (gu.out x0 r) [] σ.M (resA Tryz.ty σ.A σ.M Tryz.f64.results.toList)
theorem gu.can (x0 : Ta) (r : Bool) (hr : gu x0 = some r) : CallOk Tryz.prog 64 [.agg [.lit (.int .i64 x0.fa), .lit (.string x0.fc), .lit (.string x0.fe), .lit (.int .i64 x0.fd), .lit (.int .i64 x0.fOf), .lit (.int .i64 x0.fg), .lit (.int .i64 x0.fh), .lit (.bool x0.fOn), .lit (.bool x0.ff), .sl (x0.fb.map (eNum .u32)) .no]] [] (gu.out x0 r) := by
 unfold gu at hr;have hΓ := (gamL_cons gz.ok (gamL_nil) : GamOk Tryz.prog _);refine cw Tryz.func64 rfl (by kernel_rfl) rfl rfl (by simp) fun _ _ _ => ?_;refine tq hΓ [1] [0] ?_;refine tq hΓ [3] [] ?_;refine AWp.meetF (fun (v1 : Unit) (γ1 : Unit) => ⟨[], [.blk x0.enc]⟩) (gu.fin x0) hr (fun f hr => ?_) (fun v1 γ1 hr => ?_) (fun _ h => h)
 ·refine AWp.block ?_;refine AWp.meetF (fun (v2 : Bool) (γ2 : Unit) => ⟨[⟨3, none, .n x0.fa⟩, ⟨1, none, .ptr 0 0⟩, ⟨6, none, .b v2⟩], [.blk x0.enc]⟩) (QRm (gu.fin x0)) hr (fun f hr => ?_) (fun v2 γ2 hr => ?_) (fun _ h => QRm_ret h)
  ·obtain ⟨r1, h16, hr⟩ := Ld hr;obtain ⟨h17, hr⟩ := Lb hr;refine tq hΓ [6] [] ?_ (by simp [h16, h17]; exact rr);refine AWp.cnd hr (by simp) (fun h18 hr => ?_) (fun h18 hr => ?_)
   ·refine AWp.skip ?_;obtain rfl := La hr;exact meet_go () 1 (by first | (simp; done) | simp [h18])
   ·obtain ⟨r2, h19, hr⟩ := Ld hr;refine tq hΓ [6] [] ?_ (by simp [h18, h19]; exact rr);refine AWp.cnd hr (by simp) (fun h20 hr => ?_) (fun h20 hr => ?_)
    ·refine AWp.skip ?_;obtain rfl := La hr;exact meet_go () 1 (by first | (simp; done) | simp [h20])
    ·obtain ⟨r3, h21, hr⟩ := Ld hr;refine tq hΓ [6] [] ?_ (by simp [h20, h21]; exact rr);refine AWp.cnd hr (by simp) (fun h22 hr => ?_) (fun h22 hr => ?_)
     ·refine AWp.skip ?_;obtain rfl := La hr;exact meet_go () 1 (by first | (simp; done) | simp [h22])
     ·obtain ⟨r4, h23, hr⟩ := Ld hr;refine tl hΓ [6] [] ?_ (by simp [h22, h23]; exact rr);obtain rfl := La hr;exact meet_go () 1 (by first | (simp; done) | simp [h16, h17, h18, h19, h20, h21, h22, h23])
  ·refine AWp.cnd hr (by simp) (fun h24 hr => ?_) (fun h24 hr => ?_)
   ·refine tq hΓ [2] [3, 1, 6] ?_ (by simp [h24]; exact rr);refine AWp.ret ?_;obtain rfl := La hr;refine meet_ret ?_;refine Le ?_;simp
   ·refine AWp.meetF (fun (v3 : Bool) (γ3 : Unit) => ⟨[⟨42, none, .b v3⟩], [.blk x0.enc]⟩) (QRm (gu.fin x0)) hr (fun f hr => ?_) (fun v3 γ3 hr => ?_) (fun _ h => QRm_ret h)
    ·obtain ⟨r5, h25, hr⟩ := Ld hr;refine tq hΓ [42] [6] ?_ (by simp [h24, h25]; exact rr);refine AWp.cnd hr (by simp) (fun h26 hr => ?_) (fun h26 hr => ?_)
     ·refine AWp.skip ?_;obtain rfl := La hr;exact meet_go () 1 (by first | (simp; done) | simp [h26])
     ·obtain ⟨r6, h27, hr⟩ := Ld hr;refine tq hΓ [42] [] ?_ (by simp [h26, h27]; exact rr);refine AWp.cnd hr (by simp) (fun h28 hr => ?_) (fun h28 hr => ?_)
      ·refine AWp.skip ?_;obtain rfl := La hr;exact meet_go () 1 (by first | (simp; done) | simp [h28])
      ·obtain ⟨r7, h29, hr⟩ := Ld hr;refine tl hΓ [42] [3, 1] ?_ (by simp [h28, h29]; exact rr);obtain rfl := La hr;exact meet_go () 1 (by first | (simp; done) | simp [h24, h25, h26, h27, h28, h29])
    ·refine AWp.cnd hr (by simp) (fun h30 hr => ?_) (fun h30 hr => ?_)
     ·refine tq hΓ [2] [42] ?_ (by simp [h30]; exact rr);refine AWp.ret ?_;obtain rfl := La hr;refine meet_ret ?_;refine Le ?_;simp
     ·refine AWp.skip ?_;obtain rfl := La hr;exact meet_go () 1 (by first | (simp; done) | simp [h24, h30])
 ·refine tq hΓ [2] [] ?_;obtain rfl := La hr;exact AWp.ret (Le (by simp))
@[simp] noncomputable def gu.S : Sp
  | [.agg e0], _ => some { av := .lit (.bool ((gu (Ta.dec e0)).getD dflt)), M := none, obl := WeakL e0 (Ta.enc (Ta.dec e0)) ∧ (gu (Ta.dec e0)).isSome = true }
  | _, _ => none
theorem gu.ok : SpecOk Tryz.prog 64 gu.S := by
 intro l M out h;unfold gu.S at h;split at h
 ·rename_i e0;cases h;refine callOk_of fun ho => ?_;obtain ⟨ox0, hs⟩ := ho;generalize (Ta.dec e0) = x0 at *
  obtain ⟨r, hr⟩ := so1 hs;simp only [hr, gd1];have q := Lh (M := M) [] (gu.can x0 r hr) (by simp) rfl ixn;exact callOk_conv q trivial (by simp; exact ox0) (by simp [frameOut]) (by simp [frameOut])
 ·cases h
@[simp] def gc.out (_x0 : Ta) (r : Int) : Out := { av := .lit (.int .i64 r), M := none }
def gc.fin (x0 : Ta) (r : Int) (σ : St) : Prop := finK (gc.out x0 r) [] σ.M (resA Tryz.ty σ.A σ.M Tryz.f67.results.toList)
theorem gc.can (x0 : Ta) (r : Int) (hr : gc x0 = some r) : CallOk Tryz.prog 67 [.agg [.lit (.int .i64 x0.fa), .lit (.string x0.fc), .lit (.string x0.fe), .lit (.int .i64 x0.fd), .lit (.int .i64 x0.fOf), .lit (.int .i64 x0.fg), .lit (.int .i64 x0.fh), .lit (.bool x0.fOn), .lit (.bool x0.ff), .sl (x0.fb.map (eNum .u32)) .no]] [] (gc.out x0 r) := by
 unfold gc at hr;have hΓ := gamL_nil (P := Tryz.prog);refine cw Tryz.func67 rfl (by kernel_rfl) rfl rfl (by simp) fun _ _ _ => ?_;refine tq hΓ [1] [0] ?_;refine tq hΓ [3] [] ?_;refine AWp.seq ?_;refine AWp.block ?_;refine tq hΓ [11] [3] ?_;refine AWp.cnd hr (by simp) (fun h8 hr => ?_) (fun h8 hr => ?_)
 ·refine tq hΓ [2] [11, 1] ?_ (by simp [h8]; exact rr);obtain rfl := La hr;exact AWp.ret (Le (by simp))
 ·refine AWp.skip ?_;refine AWp.seq ?_;refine tq hΓ [28, 29, 30] [11] ?_ (by simp [h8]; exact rr);refine AWp.loopE (fun (s1 : Int) (γ1 : Unit) => ⟨[⟨28, none, .sl (x0.fb.map (eNum .u32)) .no⟩, ⟨29, none, .n (lenL x0.fb)⟩, ⟨30, none, .n s1⟩, ⟨1, none, .ptr 0 0⟩], [.blk x0.enc]⟩) (fun (v1 : Unit) (γ1a : Unit) => ⟨[], [.blk x0.enc]⟩) (gc.fin x0) hr () 1 (by simp) (fun s1 f γ1 hr => ?_) (fun v1 γ1a σ1 m1 hr hc => ?_) (fun _ h => h)
  ·unfold gc.loop1 at hr;refine tq hΓ [31] [] ?_ (by simp; exact rr);refine AWp.seq ?_;refine AWp.cnd hr (by simp) (fun h9 hr => ?_) (fun h9 hr => ?_)
   ·refine AWp.skip ?_;refine AWp.seq ?_;refine AWp.block ?_;obtain ⟨h10, hr⟩ := Lb hr;refine tq hΓ [4, 5] [31] ?_ (by simp [h9, h10]; exact rr);obtain ⟨h11, hr⟩ := Lb hr;refine tq hΓ [38, 39, 40] [4] ?_ (by simp [h11]; exact rr);refine AWp.loopE (fun (s2 : Int) (γ2 : Unit) => ⟨[⟨38, none, .sl ((cutL x0.fb 0 s1).map (eNum .u32)) .no⟩, ⟨39, none, .n (lenL (cutL x0.fb 0 s1))⟩, ⟨40, none, .n s2⟩, ⟨5, none, .lit (.int .u32 (nthI x0.fb s1))⟩, ⟨28, none, .sl (x0.fb.map (eNum .u32)) .no⟩, ⟨29, none, .n (lenL x0.fb)⟩, ⟨30, none, .n s1⟩, ⟨1, none, .ptr 0 0⟩], [.blk x0.enc]⟩) (fun (v2 : Unit) (γ2a : Unit) => ⟨[⟨28, none, .sl (x0.fb.map (eNum .u32)) .no⟩, ⟨29, none, .n (lenL x0.fb)⟩, ⟨30, none, .n s1⟩, ⟨1, none, .ptr 0 0⟩], [.blk x0.enc]⟩) (QRr (gc.fin x0)) hr () 1 (by simp) (fun s2 f γ2 hr => ?_) (fun v2 γ2a σ1 m1 hr hc => ?_) (fun _ h => QRr_ret h)
    ·unfold gc.loop2 at hr;refine tq hΓ [41] [] ?_ (by simp; exact rr);refine AWp.seq ?_;refine AWp.cnd hr (by simp) (fun h12 hr => ?_) (fun h12 hr => ?_)
     ·refine AWp.skip ?_;refine AWp.seq ?_;refine AWp.block ?_;obtain ⟨h13, hr⟩ := Lb hr;refine tq hΓ [7] [41] ?_ (by simp [h12, h13]; exact rr);refine tq hΓ [46] [7] ?_ (by simp; exact rr);refine AWp.cnd hr (by simp) (fun h14 hr => ?_) (fun h14 hr => ?_)
      ·refine tq hΓ [2] [46, 38, 39, 40, 5, 28, 29, 30, 1] ?_ (by simp [h14]; exact rr);refine AWp.ret ?_;obtain rfl := La hr;refine round_ret ?_;refine ⟨_, rfl, ?_⟩;refine Le ?_;simp
      ·refine AWp.skip ?_;refine tl hΓ [40] [46] ?_ (by simp [h14]; exact rr);obtain rfl := La hr;exact Lo () 1 (by first | (simp; done) | simp [h8, h9, h10, h11, h12, h13, h14])
     ·refine AWp.exit ?_;obtain rfl := La hr;exact Lr () 1 (by first | (simp; done) | simp [h8, h9, h10, h11, h12])
    ·refine AWp.conv hc ?_;refine tl hΓ [30] [] ?_ (by simp; exact rr);obtain rfl := La hr;exact Lo () 1 (by first | (simp; done) | simp [h8, h9, h10, h11])
   ·refine AWp.exit ?_;obtain rfl := La hr;exact Lr () 1 (by first | (simp; done) | simp [h8, h9])
  ·refine AWp.conv hc ?_;refine tq hΓ [2] [] ?_ (by simp; exact rr);obtain rfl := La hr;exact AWp.ret (Le (by simp))
@[simp] noncomputable def gc.S : Sp
  | [.agg e0], _ => some { av := .lit (.int .i64 ((gc (Ta.dec e0)).getD dflt)), M := none, obl := WeakL e0 (Ta.enc (Ta.dec e0)) ∧ (gc (Ta.dec e0)).isSome = true }
  | _, _ => none
theorem gc.ok : SpecOk Tryz.prog 67 gc.S := by
 intro l M out h;unfold gc.S at h;split at h
 ·rename_i e0;cases h;refine callOk_of fun ho => ?_;obtain ⟨ox0, hs⟩ := ho;generalize (Ta.dec e0) = x0 at *
  obtain ⟨r, hr⟩ := so1 hs;simp only [hr, gd1];have q := Lh (M := M) [] (gc.can x0 r hr) (by simp) rfl ixn;exact callOk_conv q trivial (by simp; exact ox0) (by simp [frameOut]) (by simp [frameOut])
 ·cases h
@[simp] def gt.out (_x0 : Ta) (r : Int) : Out := { av := .lit (.int .i64 r), M := none }
theorem gt.can (x0 : Ta) (r : Int) (hr : gt x0 = some r) : CallOk Tryz.prog 35 [.agg [.lit (.int .i64 x0.fa), .lit (.string x0.fc), .lit (.string x0.fe), .lit (.int .i64 x0.fd), .lit (.int .i64 x0.fOf), .lit (.int .i64 x0.fg), .lit (.int .i64 x0.fh), .lit (.bool x0.fOn), .lit (.bool x0.ff), .sl (x0.fb.map (eNum .u32)) .no]] [] (gt.out x0 r) := by
 unfold gt at hr;have hΓ := (gamL_cons gu.ok (gamL_cons gc.ok (gamL_cons gO.ok (gamL_cons gU.ok (gamL_cons gC.ok (gamL_nil))))) : GamOk Tryz.prog _);refine cw Tryz.func35 rfl (by kernel_rfl) rfl rfl (by simp) fun _ _ _ => ?_;refine tq hΓ [1] [0] ?_;refine AWp.seq ?_;refine AWp.block ?_;obtain ⟨r1, h13, hr⟩ := Ld hr;refine tq hΓ [3] [] ?_ (by simp [h13]; exact rr);refine AWp.cnd hr (by simp) (fun h14 hr => ?_) (fun h14 hr => ?_)
 ·refine tq hΓ [2] [3, 1] ?_ (by simp [h14]; exact rr);obtain rfl := La hr;exact AWp.ret (Le (by simp))
 ·obtain ⟨r2, h15, hr⟩ := Ld hr;refine tq hΓ [8] [3] ?_ (by simp [h14, h15]; exact rr);refine AWp.cnd hr (by simp) (fun h16 hr => ?_) (fun h16 hr => ?_)
  ·refine tq hΓ [2] [8, 1] ?_ (by simp [h16]; exact rr);obtain rfl := La hr;exact AWp.ret (Le (by simp))
  ·obtain ⟨r3, h17, hr⟩ := Ld hr;obtain ⟨h18, hr⟩ := Lb hr;refine tq hΓ [12] [8] ?_ (by simp [h16, h17, h18]; exact rr);refine AWp.cnd hr (by simp) (fun h19 hr => ?_) (fun h19 hr => ?_)
   ·refine tq hΓ [2] [12, 1] ?_ (by simp [h19]; exact rr);obtain rfl := La hr;exact AWp.ret (Le (by simp))
   ·obtain ⟨h20, hr⟩ := Lb hr;obtain ⟨h21, hr⟩ := Lb hr;refine tq hΓ [43] [12] ?_ (by simp [h19, h20, h21]; exact rr);refine AWp.cnd hr (by simp) (fun h22 hr => ?_) (fun h22 hr => ?_)
    ·refine tq hΓ [2] [43, 1] ?_ (by simp [h22]; exact rr);obtain rfl := La hr;exact AWp.ret (Le (by simp))
    ·refine tq hΓ [59] [43] ?_ (by simp [h22]; exact rr);refine AWp.cnd hr (by simp) (fun h23 hr => ?_) (fun h23 hr => ?_)
     ·obtain ⟨r4, h24, hr⟩ := Ld hr;refine tq hΓ [2] [59, 1] ?_ (by simp [h23, h24]; exact rr);obtain rfl := La hr;exact AWp.ret (Le (by simp))
     ·refine AWp.skip ?_;refine tq hΓ [2] [59, 1] ?_ (by simp [h23]; exact rr);obtain rfl := La hr;exact AWp.ret (Le (by simp))
@[simp] noncomputable def gt.S : Sp
  | [.agg e0], _ => some { av := .lit (.int .i64 ((gt (Ta.dec e0)).getD dflt)), M := none, obl := WeakL e0 (Ta.enc (Ta.dec e0)) ∧ (gt (Ta.dec e0)).isSome = true }
  | _, _ => none
theorem gt.ok : SpecOk Tryz.prog 35 gt.S := by
 intro l M out h;unfold gt.S at h;split at h
 ·rename_i e0;cases h;refine callOk_of fun ho => ?_;obtain ⟨ox0, hs⟩ := ho;generalize (Ta.dec e0) = x0 at *
  obtain ⟨r, hr⟩ := so1 hs;simp only [hr, gd1];have q := Lh (M := M) [] (gt.can x0 r hr) (by simp) rfl ixn;exact callOk_conv q trivial (by simp; exact ox0) (by simp [frameOut]) (by simp [frameOut])
 ·cases h
@[simp] def gY.out (_x0 : Bool) (r : Int) : Out := { av := .lit (.int .u8 r), M := none }
theorem gY.can (x0 : Bool) (r : Int) (hr : gY x0 = some r) : CallOk Tryz.prog 71 [.lit (.bool x0)] [] (gY.out x0 r) := by
 unfold gY at hr;have hΓ := gamL_nil (P := Tryz.prog);refine cw Tryz.func71 rfl (by kernel_rfl) rfl rfl (by simp) fun _ _ _ => ?_;refine tq hΓ [] [] ?_;refine AWp.seq ?_;refine tq hΓ [3] [0] ?_;refine AWp.cnd hr (by simp) (fun h2 hr => ?_) (fun h2 hr => ?_)
 ·refine tq hΓ [2] [3] ?_ (by simp [h2]; exact rr);obtain rfl := La hr;exact AWp.ret (Le (by simp))
 ·refine AWp.skip ?_;refine tq hΓ [2] [3] ?_ (by simp [h2]; exact rr);obtain rfl := La hr;exact AWp.ret (Le (by simp))
@[simp] noncomputable def gY.S : Sp
  | [.lit (.bool x0)], _ => some { av := .lit (.int .u8 ((gY x0).getD dflt)), M := none, obl := (gY x0).isSome = true }
  | _, _ => none
theorem gY.ok : SpecOk Tryz.prog 71 gY.S := by
 intro l M out h;unfold gY.S at h;split at h
 ·rename_i x0;cases h;refine callOk_of fun ho => ?_;have hs := ho;obtain ⟨r, hr⟩ := so1 hs;simp only [hr, gd1];have q := Lh (M := M) [] (gY.can x0 r hr) (by simp) rfl ixn;exact callOk_conv q trivial (by simp) (by simp [frameOut]) (by simp [frameOut])
 ·cases h
@[simp] def gi.out (_x0 : Ta) (r : ByteArray) : Out := { av := .lit (.string r), M := none }
def gi.fin (x0 : Ta) (r : ByteArray) (σ : St) : Prop := finK (gi.out x0 r) [] σ.M (resA Tryz.ty σ.A σ.M Tryz.f36.results.toList)
theorem gi.can (x0 : Ta) (r : ByteArray) (hr : gi x0 = some r) : CallOk Tryz.prog 36 [.agg [.lit (.int .i64 x0.fa), .lit (.string x0.fc), .lit (.string x0.fe), .lit (.int .i64 x0.fd), .lit (.int .i64 x0.fOf), .lit (.int .i64 x0.fg), .lit (.int .i64 x0.fh), .lit (.bool x0.fOn), .lit (.bool x0.ff), .sl (x0.fb.map (eNum .u32)) .no]] [] (gi.out x0 r) := by
 unfold gi at hr;have hΓ := (gamL_cons gn.ok (gamL_cons gag.Text.ok (gamL_cons gl.ok (gamL_cons gm.ok (gamL_cons gag.U8.ok (gamL_cons gY.ok (gamL_cons gO.ok (gamL_nil))))))) : GamOk Tryz.prog _);refine cw Tryz.func36 rfl (by kernel_rfl) rfl rfl (by simp) fun _ _ _ => ?_;refine tq hΓ [1] [0] ?_;refine AWp.then ⟨[⟨3, none, .ptr 1 0⟩, ⟨1, none, .ptr 0 0⟩], [.blk x0.enc, .opq (wrO 126 5 [])]⟩ (gag.alloc rfl rfl rfl rfl (by kernel_rfl) rfl (dead := []) (by simp [exS])) ?_;obtain ⟨h25, hr⟩ := Lb hr;refine tq hΓ [] [] ?_ (by simp [h25]; exact rr);refine AWp.seq ?_;obtain ⟨r1, h26, hr⟩ := Ld hr;refine tq hΓ [14] [] ?_ (by simp [h26]; exact rr);refine AWp.loopE (fun (s1 : List Int × Nat) (γ1 : Unit) => ⟨[⟨14, none, .it 2⟩, ⟨3, none, .ptr 1 0⟩, ⟨1, none, .ptr 0 0⟩], [.blk x0.enc, .opq (wrO 126 5 s1.1), .iter r1 s1.2]⟩) (fun (v1 : List Int) (γ1a : Unit) => ⟨[⟨3, none, .ptr 1 0⟩], [.blk x0.enc, .opq (wrO 126 5 v1), .dead]⟩) (gi.fin x0) hr () 3 (by simp) (fun s1 f γ1 hr => ?_) (fun v1 γ1a σ1 m1 hr hc => ?_) (fun _ h => h)
 ·unfold gi.loop1 at hr;cases h27 : (nextB r1 s1.2) with
  | true =>
    have hr := cond_t h27 hr;refine tq hΓ [15, 16] [] ?_ (by simp [h27]; exact rr);refine AWp.seq ?_;refine AWp.cond (b := true) (by simp) (fun hb => ?_) (fun hb => ?_)
    ·refine AWp.skip ?_;refine AWp.block ?_;refine tq hΓ [5] [15, 16] ?_ (by simp; exact rr);refine tq hΓ [18] [5] ?_ (by simp; exact rr);refine AWp.block ?_;refine tq hΓ [19] [] ?_ (by simp; exact rr);refine AWp.cnd hr (by simp) (fun h28 hr => ?_) (fun h28 hr => ?_)
     ·obtain ⟨h29, hr⟩ := Lb hr;obtain ⟨r2, h30, hr⟩ := Ld hr;obtain ⟨h31, hr⟩ := Lb hr;obtain ⟨r3, h32, hr⟩ := Ld hr;refine AWp.lst (AWp.regD Tryz.mixed Tryz.tyOk hΓ [] [19, 18] [(6, 0), (7, 0), (8, 0), (10, 0), (10, 6), (11, 0), (11, 6), (12, 0), (12, 6), (13, 0), (13, 6), (14, 0), (14, 6), (16, 0), (16, 6), (16, 10), (17, 0), (17, 6), (17, 10), (18, 0), (18, 6), (18, 10)] [(false, []), (false, []), (false, []), (false, []), (false, []), (true, []), (false, []), (false, []), (false, []), (true, []), (false, []), (false, []), (false, []), (false, []), (false, []), (true, []), (false, []), (false, []), (false, []), (true, [])] (by kernel_rfl) rfl (by simp [h28, h29, h30, h31, h32]; exact rr)) ?_;obtain rfl := La hr;exact Lo () 3 (by first | (simp; done) | simp [h25, h26, h27, h28, h29, h30, h31, h32])
     ·refine tq hΓ [41] [19] ?_ (by simp [h28]; exact rr);refine AWp.cnd hr (by simp) (fun h33 hr => ?_) (fun h33 hr => ?_)
      ·obtain ⟨r4, h34, hr⟩ := Ld hr;refine tl hΓ [] [41, 18] ?_ (by simp [h33, h34]; exact rr);obtain rfl := La hr;exact Lo () 3 (by first | (simp; done) | simp [h25, h26, h27, h28, h33, h34])
      ·refine tq hΓ [48] [41] ?_ (by simp [h33]; exact rr);refine AWp.cnd hr (by simp) (fun h35 hr => ?_) (fun h35 hr => ?_)
       ·obtain ⟨r5, h36, hr⟩ := Ld hr;refine tl hΓ [] [48, 18] ?_ (by simp [h35, h36]; exact rr);obtain rfl := La hr;exact Lo () 3 (by first | (simp; done) | simp [h25, h26, h27, h28, h33, h35, h36])
       ·refine tq hΓ [55] [48] ?_ (by simp [h35]; exact rr);refine AWp.cnd hr (by simp) (fun h37 hr => ?_) (fun h37 hr => ?_)
        ·obtain ⟨h38, hr⟩ := Lb hr;refine tl hΓ [] [55, 18] ?_ (by simp [h37, h38]; exact rr);obtain rfl := La hr;exact Lo () 3 (by first | (simp; done) | simp [h25, h26, h27, h28, h33, h35, h37, h38])
        ·refine tq hΓ [62] [55] ?_ (by simp [h37]; exact rr);refine AWp.cnd hr (by simp) (fun h39 hr => ?_) (fun h39 hr => ?_)
         ·obtain ⟨h40, hr⟩ := Lb hr;refine tl hΓ [] [62, 18] ?_ (by simp [h39, h40]; exact rr);obtain rfl := La hr;exact Lo () 3 (by first | (simp; done) | simp [h25, h26, h27, h28, h33, h35, h37, h39, h40])
         ·refine tq hΓ [69] [62] ?_ (by simp [h39]; exact rr);refine AWp.cnd hr (by simp) (fun h41 hr => ?_) (fun h41 hr => ?_)
          ·obtain ⟨r6, h42, hr⟩ := Ld hr;obtain ⟨h43, hr⟩ := Lb hr;refine tl hΓ [] [69, 18] ?_ (by simp [h41, h42, h43]; exact rr);obtain rfl := La hr;exact Lo () 3 (by first | (simp; done) | simp [h25, h26, h27, h28, h33, h35, h37, h39, h41, h42, h43])
          ·refine tq hΓ [76] [69, 18] ?_ (by simp [h41]; exact rr);refine AWp.cnd hr (by simp) (fun h44 hr => ?_) (fun h44 hr => ?_)
           ·obtain ⟨r7, h45, hr⟩ := Ld hr;obtain ⟨h46, hr⟩ := Lb hr;obtain ⟨r8, h47, hr⟩ := Ld hr;refine AWp.lst (AWp.regD Tryz.mixed Tryz.tyOk hΓ [] [76] [(9, 0), (10, 0)] [(false, []), (false, []), (false, []), (false, []), (false, []), (false, []), (false, []), (false, []), (true, []), (false, []), (false, []), (true, [])] (by kernel_rfl) rfl (by simp [h44, h45, h46, h47]; exact rr)) ?_;obtain rfl := La hr;exact Lo () 3 (by first | (simp; done) | simp [h25, h26, h27, h28, h33, h35, h37, h39, h41, h44, h45, h46, h47])
           ·refine AWp.skip ?_;obtain rfl := La hr;exact Lo () 3 (by first | (simp; done) | simp [h25, h26, h27, h28, h33, h35, h37, h39, h41, h44])
    ·cases hb
  | false =>
    have hr := cond_f h27 hr;refine tq hΓ [15, 16] [] ?_ (by simp [h27]; exact rr);refine AWp.seq ?_;refine AWp.cond (b := false) (by simp) (fun hb => ?_) (fun hb => ?_)
    ·cases hb
    ·refine AWp.exit ?_;obtain rfl := La hr;exact Lr () 3 (by first | (simp; done) | simp [h25, h26, h27])
 ·refine AWp.conv hc ?_;obtain ⟨h48, hr⟩ := Lb hr;refine tq hΓ [2] [3] ?_ (by simp [h48]; exact rr);obtain rfl := La hr;exact AWp.ret (Le (by simp))
@[simp] noncomputable def gi.S : Sp
  | [.agg e0], _ => some { av := .lit (.string ((gi (Ta.dec e0)).getD dflt)), M := none, obl := WeakL e0 (Ta.enc (Ta.dec e0)) ∧ (gi (Ta.dec e0)).isSome = true }
  | _, _ => none
theorem gi.ok : SpecOk Tryz.prog 36 gi.S := by
 intro l M out h;unfold gi.S at h;split at h
 ·rename_i e0;cases h;refine callOk_of fun ho => ?_;obtain ⟨ox0, hs⟩ := ho;generalize (Ta.dec e0) = x0 at *
  obtain ⟨r, hr⟩ := so1 hs;simp only [hr, gd1];have q := Lh (M := M) [] (gi.can x0 r hr) (by simp) rfl ixn;exact callOk_conv q trivial (by simp; exact ox0) (by simp [frameOut]) (by simp [frameOut])
 ·cases h
end Go.Proofs
