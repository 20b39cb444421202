import Derived.Test.YtpamnignoocogaaGreatDoorM15
import Derived.Test.YtpamnignoocogaaGreatDoorTy
import Derived.Test.YtpamnignoocogaaGreatDoorM10
import Derived.Test.YtpamnignoocogaaGreatDoorM18
set_option maxHeartbeats 4000000
namespace Go.Proofs
open Go.Ab
@[simp] def gah.out (_x0 : Tc) (_x1 : Tb) (r : Bool) : Out := { av := .lit (.bool r), M := none }
set_option maxRecDepth 100000 in
theorem gah.can (x0 : Tc) (x1 : Tb) (r : Bool) (hr : gah x0 x1 = some r) : CallOk Tryz.prog 11 [.agg [.lit (.int .i64 x0.fb), .lit (.int .i64 x0.fc), .lit (.string x0.fj), .lit (.int .i64 x0.fN)], .agg [.lit (.int .i64 x1.fb), .lit (.int .i64 x1.fc), .lit (.int .i64 x1.fN), .lit (.string x1.fj), .lit (.int .i64 x1.fC.fb), .lit (.string x1.fC.fd), .lit (.string x1.fC.ff), .lit (.int .i64 x1.fC.fc), .lit (.int .i64 x1.fC.fOf), .lit (.int .i64 x1.fC.fg), .lit (.int .i64 x1.fC.fh), .lit (.bool x1.fC.fOn), .lit (.bool x1.fC.fe), .sl (x1.fC.fa.map (eNum .u32)) .no]] [] (gah.out x0 x1 r) := by
 unfold gah at hr;have hΓ := gamL_nil (P := Tryz.prog);refine cw Tryz.func11 rfl (by kernel_rfl) rfl rfl (by simp) fun _ _ _ => ?_;refine tq hΓ [2, 3] [0, 1] ?_;refine tq hΓ [4] [2, 3] ?_;obtain rfl := La hr;exact AWp.ret (Ld (by simp))
@[simp] noncomputable def gah.S : Sp
  | [.agg e0, .agg e1], _ => some { av := .lit (.bool ((gah (Tc.dec e0) (Tb.dec e1)).getD dflt)), M := none, obl := WeakL e0 (Tc.enc (Tc.dec e0)) ∧ WeakL e1 (Tb.enc (Tb.dec e1)) ∧ (gah (Tc.dec e0) (Tb.dec e1)).isSome = true }
  | _, _ => none
theorem gah.ok : SpecOk Tryz.prog 11 gah.S := by
 intro l M out h;unfold gah.S at h;split at h
 ·rename_i e0 e1;cases h;refine callOk_of fun ho => ?_;obtain ⟨ox0, ox1, hs⟩ := ho;generalize (Tc.dec e0) = x0 at *
  generalize (Tb.dec e1) = x1 at *
  obtain ⟨r, hr⟩ := so1 hs;simp only [hr, gd1];have q := Lg (M := M) [] (gah.can x0 x1 r hr) (by simp) rfl ixn;exact callOk_conv q trivial (by simp; exact ⟨ox0, ox1⟩) (by simp [frameOut]) (by simp [frameOut])
 ·cases h
@[simp] def gv.out (_x0 : ByteArray) (r : Bool) : Out := { av := .lit (.bool r), M := none }
def gv.fin (x0 : ByteArray) (r : Bool) (σ : St) : Prop := finK (gv.out x0 r) [] σ.M (resA Tryz.ty σ.A σ.M Tryz.f3.results.toList)
set_option maxRecDepth 100000 in
theorem gv.can (x0 : ByteArray) (r : Bool) (hr : gv x0 = some r) : CallOk Tryz.prog 3 [.lit (.string x0)] [] (gv.out x0 r) := by
 unfold gv at hr;have hΓ := (gamL_cons gaf.ok (gamL_cons gac.ok (gamL_cons gah.ok (gamL_cons gI.ok (gamL_cons gaw.ok (gamL_cons gt.ok (gamL_nil)))))) : GamOk Tryz.prog _);refine cw Tryz.func3 rfl (by kernel_rfl) rfl rfl (by simp) fun _ _ _ => ?_;refine tq hΓ [] [] ?_;obtain ⟨r1, h17, hr⟩ := Le hr;refine tq hΓ [0] [] ?_ (by simp [h17]; exact rr);obtain ⟨r2, h18, hr⟩ := Le hr;refine tq hΓ [3, 4, 5] [] ?_ (by simp [h18]; exact rr);obtain ⟨h19, hr⟩ := Lb hr;refine tq hΓ [6] [0] ?_ (by simp [h19]; exact rr);refine AWp.meetF (fun (v1 : List ByteArray) (γ1 : Unit) => ⟨[⟨6, none, .sl (v1.map eTxt) .no⟩, ⟨3, none, .sl (r2.1.map Tc.enc) (tokN (neI r2.2.2 0))⟩, ⟨4, none, .n r2.2.1⟩, ⟨5, none, .n r2.2.2⟩], []⟩) (gv.fin x0) hr (fun f hr => ?_) (fun v1 γ1 hr => ?_) (fun _ h => h)
 ·obtain ⟨h20, hr⟩ := Lb hr;refine tq hΓ [27] [] ?_ (by simp [h20]; exact rr);refine AWp.cnd hr (by simp) (fun h21 hr => ?_) (fun h21 hr => ?_)
  ·obtain ⟨h22, hr⟩ := Lb hr;refine tl hΓ [6] [27] ?_ (by simp [h21, h22]; exact rr);obtain rfl := La hr;exact meet_go () 0 (by first | (simp; done) | simp [h17, h18, h19, h20, h21, h22])
  ·refine AWp.skip ?_;obtain rfl := La hr;exact meet_go () 0 (by first | (simp; done) | simp [h17, h18, h19, h20, h21])
 ·refine AWp.seq ?_;obtain ⟨r3, h23, hr⟩ := Le hr;refine tq hΓ [34] [] ?_ (by simp [h23]; exact rr);refine AWp.cnd hr (by simp) (fun h24 hr => ?_) (fun h24 hr => ?_)
  ·refine tq hΓ [2] [34, 6, 3, 4, 5] ?_ (by simp [h24]; exact rr);obtain rfl := La hr;exact AWp.ret (Ld (by simp))
  ·refine AWp.skip ?_;refine AWp.seq ?_;refine tq hΓ [35, 36, 37] [34] ?_ (by simp [h24]; exact rr);refine AWp.loopE (fun (s2 : Int) (γ2 : Unit) => ⟨[⟨35, none, .sl (v1.map eTxt) .no⟩, ⟨36, none, .n (lenL v1)⟩, ⟨37, none, .n s2⟩, ⟨6, none, .sl (v1.map eTxt) .no⟩, ⟨3, none, .sl (r2.1.map Tc.enc) (tokN (neI r2.2.2 0))⟩, ⟨4, none, .n r2.2.1⟩, ⟨5, none, .n r2.2.2⟩], []⟩) (fun (v2 : Unit) (γ2a : Unit) => ⟨[⟨6, none, .sl (v1.map eTxt) .no⟩, ⟨3, none, .sl (r2.1.map Tc.enc) (tokN (neI r2.2.2 0))⟩, ⟨4, none, .n r2.2.1⟩, ⟨5, none, .n r2.2.2⟩], []⟩) (gv.fin x0) hr () 0 (by simp) (fun s2 f γ2 hr => ?_) (fun v2 γ2a σ1 m1 hr hc => ?_) (fun _ h => h)
   ·unfold gv.loop2 at hr;refine tq hΓ [38] [] ?_ (by simp; exact rr);refine AWp.seq ?_;refine AWp.cnd hr (by simp) (fun h25 hr => ?_) (fun h25 hr => ?_)
    ·refine AWp.skip ?_;refine AWp.seq ?_;refine AWp.block ?_;obtain ⟨h26, hr⟩ := Lb hr;refine tq hΓ [7, 8] [38] ?_ (by simp [h25, h26]; exact rr);obtain ⟨r4, h27, hr⟩ := Le hr;refine tq hΓ [9, 10] [8] ?_ (by simp [h27]; exact rr);refine AWp.seq ?_;refine tq hΓ [48] [] ?_ (by simp; exact rr);refine AWp.cnd hr (by simp) (fun h28 hr => ?_) (fun h28 hr => ?_)
     ·obtain ⟨h29, hr⟩ := Lb hr;refine tq hΓ [2] [48, 9, 10, 7, 35, 36, 37, 6, 3, 4, 5] ?_ (by simp [h28, h29]; exact rr);refine AWp.ret ?_;obtain rfl := La hr;refine round_ret ?_;refine Ld ?_;simp
     ·refine AWp.skip ?_;obtain ⟨h30, hr⟩ := Lb hr;obtain ⟨h31, hr⟩ := Lb hr;refine td hΓ [77] [48, 9, 10, 7] [] [(false, []), (false, []), (false, []), (false, [63]), (false, [63]), (false, [63]), (false, [63]), (false, [63]), (false, [68, 63]), (false, [68, 63]), (false, [68, 63]), (false, [68, 63]), (false, [68, 63]), (false, [68, 63]), (false, [68, 63]), (false, [63]), (false, [])] (by simp [h28, h30, h31]; exact rr) ?_;refine AWp.cnd hr (by simp) (fun h32 hr => ?_) (fun h32 hr => ?_)
      ·refine tq hΓ [2] [77, 35, 36, 37, 6, 3, 4, 5] ?_ (by simp [h32]; exact rr);refine AWp.ret ?_;obtain rfl := La hr;refine round_ret ?_;refine Ld ?_;simp
      ·refine AWp.skip ?_;refine tl hΓ [37] [77] ?_ (by simp [h32]; exact rr);obtain rfl := La hr;exact Lo () 0 (by first | (simp; done) | simp [h17, h18, h19, h23, h24, h25, h26, h27, h28, h30, h31, h32])
    ·refine AWp.exit ?_;obtain rfl := La hr;exact Lp () 0 (by first | (simp; done) | simp [h17, h18, h19, h23, h24, h25])
   ·refine AWp.conv hc ?_;refine tq hΓ [2] [6, 3, 4, 5] ?_ (by simp; exact rr);obtain rfl := La hr;exact AWp.ret (Ld (by simp))
end Go.Proofs
