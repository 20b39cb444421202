import Derived.Test.YtpamnignoocogaaGreatDoorM16
import Derived.Test.YtpamnignoocogaaGreatDoorTy
import Derived.Test.YtpamnignoocogaaGreatDoorM17
set_option maxRecDepth 100000
set_option maxHeartbeats 4000000
namespace Go.Proofs
open Go.Ab
@[simp] def gu.out (_x0 : ByteArray) (r : Int × Bool) : Out := { av := .tup [.lit (.int .i64 r.1), .lit (.bool r.2)], M := none }
def gu.fin (x0 : ByteArray) (r : Int × Bool) (σ : St) : Prop := finK (gu.out x0 r) [] σ.M (resA Tryz.ty σ.A σ.M Tryz.f45.results.toList)
theorem gu.can (x0 : ByteArray) (r : Int × Bool) (hr : gu x0 = some r) : CallOk Tryz.prog 45 [.lit (.string x0)] [] (gu.out x0 r) := by
 unfold gu at hr;have hΓ := gamL_nil (P := Tryz.prog);refine cw Tryz.func45 rfl (by kernel_rfl) rfl rfl (by simp) fun _ _ _ => ?_;refine tq hΓ [] [] ?_;refine AWp.seq ?_;obtain ⟨h8, hr⟩ := Lb hr;refine tq hΓ [23] [] ?_ (by simp [h8]; exact rr);refine AWp.cnd hr (by simp) (fun h9 hr => ?_) (fun h9 hr => ?_)
 ·refine tq hΓ [2, 3] [23, 0] ?_ (by simp [h9]; exact rr);obtain rfl := La hr;exact AWp.ret (Ld (by simp))
 ·refine AWp.skip ?_;refine tq hΓ [4] [23] ?_ (by simp [h9]; exact rr);refine AWp.seq ?_;refine tq hΓ [5] [] ?_ (by simp; exact rr);refine AWp.loopE (fun (s1 : Int × Int) (γ1 : Unit) => ⟨[⟨5, none, .n s1.1⟩, ⟨4, none, .n s1.2⟩, ⟨0, none, .s x0⟩], []⟩) (fun (v1 : Int) (γ1a : Unit) => ⟨[⟨4, none, .n v1⟩], []⟩) (gu.fin x0) hr () 0 (by simp) (fun s1 f γ1 hr => ?_) (fun v1 γ1a σ1 m1 hr hc => ?_) (fun _ h => h)
  ·unfold gu.loop1 at hr;refine AWp.seq ?_;refine tq hΓ [27] [] ?_ (by simp; exact rr);refine AWp.cnd hr (by simp) (fun h10 hr => ?_) (fun h10 hr => ?_)
   ·refine AWp.skip ?_;refine AWp.seq ?_;refine AWp.block ?_;refine AWp.seq ?_;obtain ⟨h11, hr⟩ := Lb hr;obtain ⟨h12, hr⟩ := Lb hr;refine tq hΓ [39] [27] ?_ (by simp [h10, h11]; exact rr);refine AWp.cnd hr (by simp) (fun h13 hr => ?_) (fun h13 hr => ?_)
    ·refine tq hΓ [2, 3] [39, 5, 4, 0] ?_ (by simp [h13]; exact rr);refine AWp.ret ?_;obtain rfl := La hr;refine round_ret ?_;refine Ld ?_;simp
    ·refine AWp.skip ?_;obtain ⟨h14, hr⟩ := Lb hr;refine tl hΓ [4] [39] ?_ (by simp [h11, h13]; exact rr);refine tl hΓ [5] [] ?_ (by simp; exact rr);obtain rfl := La hr;exact Lo () 0 (by first | (simp; done) | simp [h8, h9, h10, h11, h12, h13, h14])
   ·refine AWp.exit ?_;obtain rfl := La hr;exact Lp () 0 (by first | (simp; done) | simp [h8, h9, h10])
  ·refine AWp.conv hc ?_;refine tq hΓ [2, 3] [4] ?_ (by simp; exact rr);obtain rfl := La hr;exact AWp.ret (Ld (by simp))
@[simp] noncomputable def gu.S : Sp
  | [.lit (.string x0)], _ => some { av := .tup [.lit (.int .i64 (((gu x0).getD dflt).1)), .lit (.bool (((gu x0).getD dflt).2))], M := none, obl := (gu x0).isSome = true }
  | _, _ => none
theorem gu.ok : SpecOk Tryz.prog 45 gu.S := by
 intro l M out h;unfold gu.S at h;split at h
 ·rename_i x0;cases h;refine callOk_of fun ho => ?_;have hs := ho;obtain ⟨r, hr⟩ := so1 hs;simp only [hr, gd1];have q := Lg (M := M) [] (gu.can x0 r hr) (by simp) rfl ixn;exact callOk_conv q trivial (by simp) (by simp [frameOut]) (by simp [frameOut])
 ·cases h
@[simp] def gz.out (_x0 : List ByteArray) (r : List Int × Bool) : Out := { av := .tup [.sl (r.1.map (eNum .i64)) .no, .lit (.bool r.2)], M := none }
def gz.fin (x0 : List ByteArray) (r : List Int × Bool) (σ : St) : Prop := finK (gz.out x0 r) [] σ.M (resA Tryz.ty σ.A σ.M Tryz.f48.results.toList)
theorem gz.can (x0 : List ByteArray) (r : List Int × Bool) (hr : gz x0 = some r) : CallOk Tryz.prog 48 [.sl (x0.map eTxt) .no] [] (gz.out x0 r) := by
 unfold gz at hr;have hΓ := (gamL_cons gu.ok (gamL_nil) : GamOk Tryz.prog _);refine cw Tryz.func48 rfl (by kernel_rfl) rfl rfl (by simp) fun _ _ _ => ?_;refine tq hΓ [] [] ?_;refine tq hΓ [4] [] ?_;refine AWp.seq ?_;refine tq hΓ [10, 11, 12] [0] ?_;refine AWp.equip 4 1 (els := []) (by simp) (by simp) ?_;refine AWp.loopE (fun (s1 : Int × List Int) (γ1 : Nat) => ⟨[⟨10, none, .sl (x0.map eTxt) .no⟩, ⟨11, none, .n (lenL x0)⟩, ⟨12, none, .n s1.1⟩, ⟨4, none, .sl (s1.2.map (eNum .i64)) (.own 0 (γ1) 1)⟩], [.room (γ1)]⟩) (fun (v1 : List Int) (γ1a : Nat) => ⟨[⟨4, none, .sl (v1.map (eNum .i64)) (.own 0 (γ1a) 1)⟩], [.room (γ1a)]⟩) (gz.fin x0) hr 0 1 (by simp) (fun s1 f γ1 hr => ?_) (fun v1 γ1a σ1 m1 hr hc => ?_) (fun _ h => h)
 ·unfold gz.loop1 at hr;refine tq hΓ [13] [] ?_;refine AWp.seq ?_;refine AWp.cnd hr (by simp) (fun h6 hr => ?_) (fun h6 hr => ?_)
  ·refine AWp.skip ?_;refine AWp.seq ?_;refine AWp.block ?_;obtain ⟨h7, hr⟩ := Lb hr;refine tq hΓ [6] [13] ?_ (by simp [h6, h7]; exact rr);obtain ⟨r1, h8, hr⟩ := Le hr;refine tq hΓ [7, 8] [6] ?_ (by simp [h8]; exact rr);refine AWp.seq ?_;refine tq hΓ [22] [8] ?_ (by simp; exact rr);refine AWp.cnd hr (by simp) (fun h9 hr => ?_) (fun h9 hr => ?_)
   ·refine tq hΓ [2, 3] [22, 7, 10, 11, 12, 4] ?_ (by simp [h9]; exact rr);refine AWp.ret ?_;obtain rfl := La hr;refine round_ret ?_;refine Ld ?_;simp
   ·refine AWp.skip ?_;obtain ⟨h10, hr⟩ := Lb hr;refine tl hΓ [4] [22, 7] ?_ (by simp [h9, h10]; exact rr);refine tl hΓ [12] [] ?_ (by simp; exact rr);obtain rfl := La hr;exact Lo (γ1 + 1) 1 (by first | (simp; done) | simp [h6, h7, h8, h9, h10])
  ·refine AWp.exit ?_;obtain rfl := La hr;exact Lp (γ1) 1 (by first | (simp; done) | simp [h6])
 ·refine AWp.conv hc ?_;refine tq hΓ [2, 3] [4] ?_;obtain rfl := La hr;exact AWp.ret (Ld (by simp))
@[simp] noncomputable def gz.S : Sp
  | [.sl e0 _], _ => some { av := .tup [.sl ((((gz (e0.map decS)).getD dflt).1).map (eNum .i64)) .no, .lit (.bool (((gz (e0.map decS)).getD dflt).2))], M := none, obl := e0 = (e0.map decS).map eTxt ∧ (gz (e0.map decS)).isSome = true }
  | _, _ => none
theorem gz.ok : SpecOk Tryz.prog 48 gz.S := by
 intro l M out h;unfold gz.S at h;split at h
 ·rename_i e0 k0;cases h;refine callOk_of fun ho => ?_;obtain ⟨ox0, hs⟩ := ho;generalize (e0.map decS) = x0 at *
  subst ox0;obtain ⟨r, hr⟩ := so1 hs;simp only [hr, gd1];have q := Lg (M := M) [] (gz.can x0 r hr) (by simp) rfl ixn;exact callOk_conv q trivial (by simp) (by simp [frameOut]) (by simp [frameOut])
 ·cases h
@[simp] def gV.out (_x0 : ByteArray) (_x1 : List ByteArray) (r : Tb × Bool) : Out := { av := .tup [.agg [.lit (.int .i64 r.1.fb), .lit (.int .i64 r.1.fc), .lit (.int .i64 r.1.fN), .lit (.string r.1.fj), .lit (.int .i64 r.1.fC.fb), .lit (.string r.1.fC.fd), .lit (.string r.1.fC.ff), .lit (.int .i64 r.1.fC.fc), .lit (.int .i64 r.1.fC.fOf), .lit (.int .i64 r.1.fC.fg), .lit (.int .i64 r.1.fC.fh), .lit (.bool r.1.fC.fOn), .lit (.bool r.1.fC.fe), .sl (r.1.fC.fa.map (eNum .u32)) .no], .lit (.bool r.2)], M := none }
theorem gV.can (x0 : ByteArray) (x1 : List ByteArray) (r : Tb × Bool) (hr : gV x0 x1 = some r) : CallOk Tryz.prog 24 [.lit (.string x0), .sl (x1.map eTxt) .no] [] (gV.out x0 x1 r) := by
 unfold gV at hr;have hΓ := (gamL_cons gH.ok (gamL_cons gu.ok (gamL_nil)) : GamOk Tryz.prog _);refine cw Tryz.func24 rfl (by kernel_rfl) rfl rfl (by simp) fun _ _ _ => ?_;refine tq hΓ [4] [] ?_;refine AWp.seq ?_;refine tq hΓ [13] [] ?_;refine AWp.cnd hr (by simp) (fun h10 hr => ?_) (fun h10 hr => ?_)
 ·refine tq hΓ [5] [13, 0, 1] ?_ (by simp [h10]; exact rr);obtain rfl := La hr;exact AWp.ret (Ld (by simp))
 ·refine AWp.skip ?_;refine AWp.seq ?_;refine tq hΓ [20] [13] ?_ (by simp [h10]; exact rr);refine AWp.cnd hr (by simp) (fun h11 hr => ?_) (fun h11 hr => ?_)
  ·refine tq hΓ [5] [20, 0, 1] ?_ (by simp [h11]; exact rr);obtain rfl := La hr;exact AWp.ret (Ld (by simp))
  ·refine AWp.skip ?_;obtain ⟨h12, hr⟩ := Lb hr;obtain ⟨r1, h13, hr⟩ := Le hr;refine tq hΓ [6, 7] [20] ?_ (by simp [h11, h12, h13]; exact rr);refine AWp.seq ?_;refine tq hΓ [30] [0] ?_ (by simp; exact rr);refine AWp.cnd hr (by simp) (fun h14 hr => ?_) (fun h14 hr => ?_)
   ·obtain ⟨h15, hr⟩ := Lb hr;obtain ⟨r2, h16, hr⟩ := Le hr;refine tq hΓ [8, 9] [30, 1] ?_ (by simp [h14, h15, h16]; exact rr);refine tq hΓ [5] [8, 9, 6, 7] ?_ (by simp; exact rr);obtain rfl := La hr;exact AWp.ret (Ld (by simp))
   ·refine AWp.skip ?_;obtain ⟨h17, hr⟩ := Lb hr;obtain ⟨r3, h18, hr⟩ := Le hr;refine tq hΓ [10, 11] [30, 1] ?_ (by simp [h14, h17, h18]; exact rr);refine tq hΓ [5] [10, 11, 6, 7] ?_ (by simp; exact rr);obtain rfl := La hr;exact AWp.ret (Ld (by simp))
@[simp] noncomputable def gV.S : Sp
  | [.lit (.string x0), .sl e1 _], _ => (fun (r : Tb × Bool) => some { av := .tup [.agg [.lit (.int .i64 (r.1.fb)), .lit (.int .i64 (r.1.fc)), .lit (.int .i64 (r.1.fN)), .lit (.string (r.1.fj)), .lit (.int .i64 (r.1.fC.fb)), .lit (.string (r.1.fC.fd)), .lit (.string (r.1.fC.ff)), .lit (.int .i64 (r.1.fC.fc)), .lit (.int .i64 (r.1.fC.fOf)), .lit (.int .i64 (r.1.fC.fg)), .lit (.int .i64 (r.1.fC.fh)), .lit (.bool (r.1.fC.fOn)), .lit (.bool (r.1.fC.fe)), .sl ((r.1.fC.fa).map (eNum .u32)) .no], .lit (.bool (r.2))], M := none, obl := e1 = (e1.map decS).map eTxt ∧ (gV x0 (e1.map decS)).isSome = true }) ((gV x0 (e1.map decS)).getD dflt)
  | _, _ => none
theorem gV.ok : SpecOk Tryz.prog 24 gV.S := by
 intro l M out h;unfold gV.S at h;split at h
 ·rename_i x0 e1 k1
  try dsimp only at h
  cases h;refine callOk_of fun ho => ?_;obtain ⟨ox1, hs⟩ := ho;generalize (e1.map decS) = x1 at *
  subst ox1;obtain ⟨r, hr⟩ := so1 hs;simp only [hr, gd1];have q := Lg (M := M) [] (gV.can x0 x1 r hr) (by simp) rfl ixn;exact callOk_conv q trivial (by simp) (by simp [frameOut]) (by simp [frameOut])
 ·cases h
@[simp] def gB.out (_x0 : Bool) (_x1 : List ByteArray) (r : Ta × Bool) : Out := { av := .tup [.agg [.lit (.int .i64 r.1.fb), .lit (.string r.1.fd), .lit (.string r.1.ff), .lit (.int .i64 r.1.fc), .lit (.int .i64 r.1.fOf), .lit (.int .i64 r.1.fg), .lit (.int .i64 r.1.fh), .lit (.bool r.1.fOn), .lit (.bool r.1.fe), .sl (r.1.fa.map (eNum .u32)) .no], .lit (.bool r.2)], M := none }
def gB.fin (x0 : Bool) (x1 : List ByteArray) (r : Ta × Bool) (σ : St) : Prop := finK (gB.out x0 x1 r) [] σ.M (resA Tryz.ty σ.A σ.M Tryz.f46.results.toList)
theorem gB.can (x0 : Bool) (x1 : List ByteArray) (r : Ta × Bool) (hr : gB x0 x1 = some r) : CallOk Tryz.prog 46 [.lit (.bool x0), .sl (x1.map eTxt) .no] [] (gB.out x0 x1 r) := by
 unfold gB at hr;have hΓ := (gamL_cons gz.ok (gamL_nil) : GamOk Tryz.prog _);refine cw Tryz.func46 rfl (by kernel_rfl) rfl rfl (by simp) fun _ _ _ => ?_;refine tq hΓ [4] [] ?_;obtain ⟨r1, h9, hr⟩ := Le hr;refine tq hΓ [6, 7] [1] ?_ (by simp [h9]; exact rr);refine AWp.seq ?_;refine tq hΓ [22] [7] ?_ (by simp; exact rr);refine AWp.cnd hr (by simp) (fun h10 hr => ?_) (fun h10 hr => ?_)
 ·refine tq hΓ [5] [22, 6, 0] ?_ (by simp [h10]; exact rr);obtain rfl := La hr;exact AWp.ret (Ld (by simp))
 ·refine AWp.skip ?_;obtain ⟨h11, hr⟩ := Lb hr;obtain ⟨h12, hr⟩ := Lb hr;refine td hΓ [8] [22, 0] [(0, 9), (1, 9), (2, 9), (3, 9), (4, 9), (5, 9), (6, 9), (7, 9)] [(false, []), (false, []), (false, []), (false, []), (false, []), (false, []), (false, []), (false, []), (true, []), (true, [])] (by simp [h10, h11, h12]; exact rr) ?_;refine AWp.seq ?_;obtain ⟨h13, hr⟩ := Lb hr;refine tq hΓ [33, 34, 35] [6] ?_ (by simp [h13]; exact rr);refine AWp.equipC 1 9 1 (els := []) (cells := _) rfl (by simp) (by simp) ?_;refine AWp.loopE (fun (s1 : Int × List Int) (γ1 : Nat) => ⟨[⟨33, none, .sl ((cutL r1.1 2 (lenL r1.1)).map (eNum .i64)) .no⟩, ⟨34, none, .n (lenL (cutL r1.1 2 (lenL r1.1)))⟩, ⟨35, none, .n s1.1⟩, ⟨8, none, .ptr 1 0⟩, ⟨4, none, .ptr 0 0⟩], [.blk [.n 0, .s ⟨#[]⟩, .s ⟨#[]⟩, .n 0, .n 0, .n 0, .n 0, .b false, .b false, .sl [] .full], .blk [.n 3, .s ⟨#[]⟩, .s ⟨#[]⟩, .n (nthI r1.1 0), .n 0, .n (nthI r1.1 1), .n 0, .b false, .b x0, .sl (s1.2.map (eNum .u32)) (.own 2 (γ1) 1)], .room (γ1)]⟩) (fun (v1 : List Int) (γ1a : Nat) => ⟨[⟨8, none, .ptr 1 0⟩, ⟨4, none, .ptr 0 0⟩], [.blk [.n 0, .s ⟨#[]⟩, .s ⟨#[]⟩, .n 0, .n 0, .n 0, .n 0, .b false, .b false, .sl [] .full], .blk [.n 3, .s ⟨#[]⟩, .s ⟨#[]⟩, .n (nthI r1.1 0), .n 0, .n (nthI r1.1 1), .n 0, .b false, .b x0, .sl (v1.map (eNum .u32)) (.own 2 (γ1a) 1)], .room (γ1a)]⟩) (gB.fin x0 x1) hr 0 3 (by simp) (fun s1 f γ1 hr => ?_) (fun v1 γ1a σ1 m1 hr hc => ?_) (fun _ h => h)
  ·unfold gB.loop1 at hr;refine tq hΓ [36] [] ?_ (by simp; exact rr);refine AWp.seq ?_;refine AWp.cnd hr (by simp) (fun h14 hr => ?_) (fun h14 hr => ?_)
   ·refine AWp.skip ?_;refine AWp.seq ?_;refine AWp.block ?_;obtain ⟨h15, hr⟩ := Lb hr;refine tq hΓ [10] [36] ?_ (by simp [h14, h15]; exact rr);obtain ⟨h16, hr⟩ := Lb hr;refine tl hΓ [] [10] ?_ (by simp [h16]; exact rr);refine tl hΓ [35] [] ?_ (by simp; exact rr);obtain rfl := La hr;exact Lo (γ1 + 1) 3 (by first | (simp; done) | simp [h9, h10, h11, h12, h13, h14, h15, h16])
   ·refine AWp.exit ?_;obtain rfl := La hr;exact Lp (γ1) 3 (by first | (simp; done) | simp [h9, h10, h11, h12, h13, h14])
  ·refine AWp.conv hc ?_;refine tq hΓ [5] [8] ?_ (by simp; exact rr);obtain rfl := La hr;exact AWp.ret (Ld (by simp))
@[simp] noncomputable def gB.S : Sp
  | [.lit (.bool x0), .sl e1 _], _ => (fun (r : Ta × Bool) => some { av := .tup [.agg [.lit (.int .i64 (r.1.fb)), .lit (.string (r.1.fd)), .lit (.string (r.1.ff)), .lit (.int .i64 (r.1.fc)), .lit (.int .i64 (r.1.fOf)), .lit (.int .i64 (r.1.fg)), .lit (.int .i64 (r.1.fh)), .lit (.bool (r.1.fOn)), .lit (.bool (r.1.fe)), .sl ((r.1.fa).map (eNum .u32)) .no], .lit (.bool (r.2))], M := none, obl := e1 = (e1.map decS).map eTxt ∧ (gB x0 (e1.map decS)).isSome = true }) ((gB x0 (e1.map decS)).getD dflt)
  | _, _ => none
theorem gB.ok : SpecOk Tryz.prog 46 gB.S := by
 intro l M out h;unfold gB.S at h;split at h
 ·rename_i x0 e1 k1
  try dsimp only at h
  cases h;refine callOk_of fun ho => ?_;obtain ⟨ox1, hs⟩ := ho;generalize (e1.map decS) = x1 at *
  subst ox1;obtain ⟨r, hr⟩ := so1 hs;simp only [hr, gd1];have q := Lg (M := M) [] (gB.can x0 x1 r hr) (by simp) rfl ixn;exact callOk_conv q trivial (by simp) (by simp [frameOut]) (by simp [frameOut])
 ·cases h
@[simp] def gJ.out (_x0 : Int) (_x1 : List ByteArray) (r : Ta × Bool) : Out := { av := .tup [.agg [.lit (.int .i64 r.1.fb), .lit (.string r.1.fd), .lit (.string r.1.ff), .lit (.int .i64 r.1.fc), .lit (.int .i64 r.1.fOf), .lit (.int .i64 r.1.fg), .lit (.int .i64 r.1.fh), .lit (.bool r.1.fOn), .lit (.bool r.1.fe), .sl (r.1.fa.map (eNum .u32)) .no], .lit (.bool r.2)], M := none }
theorem gJ.can (x0 : Int) (x1 : List ByteArray) (r : Ta × Bool) (hr : gJ x0 x1 = some r) : CallOk Tryz.prog 47 [.lit (.int .i64 x0), .sl (x1.map eTxt) .no] [] (gJ.out x0 x1 r) := by
 unfold gJ at hr;have hΓ := (gamL_cons gz.ok (gamL_nil) : GamOk Tryz.prog _);refine cw Tryz.func47 rfl (by kernel_rfl) rfl rfl (by simp) fun _ _ _ => ?_;refine tq hΓ [4] [] ?_;refine AWp.seq ?_;refine tq hΓ [11] [] ?_;refine AWp.cnd hr (by simp) (fun h13 hr => ?_) (fun h13 hr => ?_)
 ·refine tq hΓ [5] [11, 0, 1] ?_ (by simp [h13]; exact rr);obtain rfl := La hr;exact AWp.ret (Ld (by simp))
 ·refine AWp.skip ?_;obtain ⟨h14, hr⟩ := Lb hr;refine tq hΓ [6] [11] ?_ (by simp [h13, h14]; exact rr);obtain ⟨h15, hr⟩ := Lb hr;obtain ⟨r1, h16, hr⟩ := Le hr;refine tq hΓ [7, 8] [1] ?_ (by simp [h15, h16]; exact rr);refine AWp.seq ?_;refine tq hΓ [37] [8] ?_ (by simp; exact rr);refine AWp.cnd hr (by simp) (fun h17 hr => ?_) (fun h17 hr => ?_)
  ·refine tq hΓ [5] [37, 7, 6, 0] ?_ (by simp [h17]; exact rr);obtain rfl := La hr;exact AWp.ret (Ld (by simp))
  ·refine AWp.skip ?_;refine AWp.seq ?_;refine tq hΓ [45] [37] ?_ (by simp [h17]; exact rr);refine AWp.cnd hr (by simp) (fun h18 hr => ?_) (fun h18 hr => ?_)
   ·obtain ⟨h19, hr⟩ := Lb hr;obtain ⟨h20, hr⟩ := Lb hr;refine td hΓ [5] [45, 7, 6, 0] [] [(false, []), (false, []), (false, []), (false, []), (false, []), (false, []), (false, []), (false, []), (false, []), (true, []), (false, [])] (by simp [h18, h19, h20]; exact rr) ?_;obtain rfl := La hr;exact AWp.ret (Ld (by simp))
   ·refine AWp.skip ?_;refine AWp.seq ?_;refine tq hΓ [61] [45, 0] ?_ (by simp [h18]; exact rr);refine AWp.cnd hr (by simp) (fun h21 hr => ?_) (fun h21 hr => ?_)
    ·obtain ⟨h22, hr⟩ := Lb hr;obtain ⟨h23, hr⟩ := Lb hr;obtain ⟨h24, hr⟩ := Lb hr;refine td hΓ [5] [61, 7, 6] [] [(false, []), (false, []), (false, []), (false, []), (false, []), (false, []), (false, []), (false, []), (false, []), (false, []), (false, []), (false, []), (true, []), (false, [])] (by simp [h21, h22, h23, h24]; exact rr) ?_;obtain rfl := La hr;exact AWp.ret (Ld (by simp))
    ·refine AWp.skip ?_;refine tq hΓ [5] [61, 7, 6] ?_ (by simp [h21]; exact rr);obtain rfl := La hr;exact AWp.ret (Ld (by simp))
@[simp] noncomputable def gJ.S : Sp
  | [.lit (.int .i64 x0), .sl e1 _], _ => (fun (r : Ta × Bool) => some { av := .tup [.agg [.lit (.int .i64 (r.1.fb)), .lit (.string (r.1.fd)), .lit (.string (r.1.ff)), .lit (.int .i64 (r.1.fc)), .lit (.int .i64 (r.1.fOf)), .lit (.int .i64 (r.1.fg)), .lit (.int .i64 (r.1.fh)), .lit (.bool (r.1.fOn)), .lit (.bool (r.1.fe)), .sl ((r.1.fa).map (eNum .u32)) .no], .lit (.bool (r.2))], M := none, obl := e1 = (e1.map decS).map eTxt ∧ (gJ x0 (e1.map decS)).isSome = true }) ((gJ x0 (e1.map decS)).getD dflt)
  | _, _ => none
theorem gJ.ok : SpecOk Tryz.prog 47 gJ.S := by
 intro l M out h;unfold gJ.S at h;split at h
 ·rename_i x0 e1 k1
  try dsimp only at h
  cases h;refine callOk_of fun ho => ?_;obtain ⟨ox1, hs⟩ := ho;generalize (e1.map decS) = x1 at *
  subst ox1;obtain ⟨r, hr⟩ := so1 hs;simp only [hr, gd1];have q := Lg (M := M) [] (gJ.can x0 x1 r hr) (by simp) rfl ixn;exact callOk_conv q trivial (by simp) (by simp [frameOut]) (by simp [frameOut])
 ·cases h
@[simp] def gA.out (_x0 : ByteArray) (_x1 : List ByteArray) (r : Ta × Bool) : Out := { av := .tup [.agg [.lit (.int .i64 r.1.fb), .lit (.string r.1.fd), .lit (.string r.1.ff), .lit (.int .i64 r.1.fc), .lit (.int .i64 r.1.fOf), .lit (.int .i64 r.1.fg), .lit (.int .i64 r.1.fh), .lit (.bool r.1.fOn), .lit (.bool r.1.fe), .sl (r.1.fa.map (eNum .u32)) .no], .lit (.bool r.2)], M := none }
theorem gA.can (x0 : ByteArray) (x1 : List ByteArray) (r : Ta × Bool) (hr : gA x0 x1 = some r) : CallOk Tryz.prog 25 [.lit (.string x0), .sl (x1.map eTxt) .no] [] (gA.out x0 x1 r) := by
 unfold gA at hr;have hΓ := (gamL_cons gz.ok (gamL_cons gB.ok (gamL_cons gJ.ok (gamL_nil))) : GamOk Tryz.prog _);refine cw Tryz.func25 rfl (by kernel_rfl) rfl rfl (by simp) fun _ _ _ => ?_;refine tq hΓ [4] [] ?_;refine AWp.seq ?_;refine tq hΓ [8] [] ?_;refine AWp.block ?_;refine tq hΓ [9] [] ?_;refine AWp.cnd hr (by simp) (fun h29 hr => ?_) (fun h29 hr => ?_)
 ·refine AWp.seq ?_;refine tq hΓ [13] [9, 8, 0] ?_ (by simp [h29]; exact rr);refine AWp.cnd hr (by simp) (fun h30 hr => ?_) (fun h30 hr => ?_)
  ·refine tq hΓ [5] [13, 1] ?_ (by simp [h30]; exact rr);obtain rfl := La hr;exact AWp.ret (Ld (by simp))
  ·refine AWp.skip ?_;obtain ⟨h31, hr⟩ := Lb hr;obtain ⟨h32, hr⟩ := Lb hr;refine td hΓ [5] [13, 1] [] [(false, []), (false, []), (false, []), (false, []), (false, []), (false, []), (false, []), (true, []), (false, [])] (by simp [h30, h31, h32]; exact rr) ?_;obtain rfl := La hr;exact AWp.ret (Ld (by simp))
 ·refine tq hΓ [22] [9] ?_ (by simp [h29]; exact rr);refine AWp.cnd hr (by simp) (fun h33 hr => ?_) (fun h33 hr => ?_)
  ·obtain ⟨r1, h34, hr⟩ := Le hr;refine tq hΓ [5] [22, 8, 0, 1] ?_ (by simp [h33, h34]; exact rr);obtain rfl := La hr;exact AWp.ret (Ld (by simp))
  ·refine tq hΓ [28] [22] ?_ (by simp [h33]; exact rr);refine AWp.cnd hr (by simp) (fun h35 hr => ?_) (fun h35 hr => ?_)
   ·obtain ⟨r2, h36, hr⟩ := Le hr;refine tq hΓ [5] [28, 8, 0, 1] ?_ (by simp [h35, h36]; exact rr);obtain rfl := La hr;exact AWp.ret (Ld (by simp))
   ·refine tq hΓ [34] [28] ?_ (by simp [h35]; exact rr);refine AWp.cnd hr (by simp) (fun h37 hr => ?_) (fun h37 hr => ?_)
    ·obtain ⟨r3, h38, hr⟩ := Le hr;refine tq hΓ [5] [34, 8, 0, 1] ?_ (by simp [h37, h38]; exact rr);obtain rfl := La hr;exact AWp.ret (Ld (by simp))
    ·refine tq hΓ [40] [34, 8] ?_ (by simp [h37]; exact rr);refine AWp.cnd hr (by simp) (fun h39 hr => ?_) (fun h39 hr => ?_)
     ·obtain ⟨r4, h40, hr⟩ := Le hr;refine tq hΓ [5] [40, 0, 1] ?_ (by simp [h39, h40]; exact rr);obtain rfl := La hr;exact AWp.ret (Ld (by simp))
     ·refine AWp.skip ?_;obtain ⟨r5, h41, hr⟩ := Le hr;refine tq hΓ [6, 7] [40, 1] ?_ (by simp [h39, h41]; exact rr);refine AWp.seq ?_;refine tq hΓ [52] [7] ?_ (by simp; exact rr);refine AWp.cnd hr (by simp) (fun h42 hr => ?_) (fun h42 hr => ?_)
      ·refine tq hΓ [5] [52, 6, 0] ?_ (by simp [h42]; exact rr);obtain rfl := La hr;exact AWp.ret (Ld (by simp))
      ·refine AWp.skip ?_;refine AWp.seq ?_;refine tq hΓ [60] [52] ?_ (by simp [h42]; exact rr);refine AWp.cnd hr (by simp) (fun h43 hr => ?_) (fun h43 hr => ?_)
       ·obtain ⟨h44, hr⟩ := Lb hr;refine tq hΓ [5] [60, 6, 0] ?_ (by simp [h43, h44]; exact rr);obtain rfl := La hr;exact AWp.ret (Ld (by simp))
       ·refine AWp.skip ?_;refine AWp.seq ?_;refine tq hΓ [71] [60] ?_ (by simp [h43]; exact rr);refine AWp.cnd hr (by simp) (fun h45 hr => ?_) (fun h45 hr => ?_)
        ·obtain ⟨h46, hr⟩ := Lb hr;obtain ⟨h47, hr⟩ := Lb hr;refine td hΓ [5] [71, 6, 0] [] [(false, []), (false, []), (false, []), (false, []), (false, []), (false, []), (false, []), (true, []), (false, [])] (by simp [h45, h46, h47]; exact rr) ?_;obtain rfl := La hr;exact AWp.ret (Ld (by simp))
        ·refine AWp.skip ?_;refine AWp.seq ?_;refine tq hΓ [85] [71] ?_ (by simp [h45]; exact rr);refine AWp.cnd hr (by simp) (fun h48 hr => ?_) (fun h48 hr => ?_)
         ·obtain ⟨h49, hr⟩ := Lb hr;obtain ⟨h50, hr⟩ := Lb hr;obtain ⟨h51, hr⟩ := Lb hr;obtain ⟨h52, hr⟩ := Lb hr;refine td hΓ [5] [85, 6, 0] [] [(false, []), (false, []), (false, []), (false, []), (false, []), (false, []), (false, []), (false, []), (false, []), (false, []), (false, []), (false, []), (false, []), (true, []), (false, [])] (by simp [h48, h49, h50, h51, h52]; exact rr) ?_;obtain rfl := La hr;exact AWp.ret (Ld (by simp))
         ·refine AWp.skip ?_;refine AWp.seq ?_;refine tq hΓ [105] [85, 0] ?_ (by simp [h48]; exact rr);refine AWp.cnd hr (by simp) (fun h53 hr => ?_) (fun h53 hr => ?_)
          ·obtain ⟨h54, hr⟩ := Lb hr;obtain ⟨h55, hr⟩ := Lb hr;obtain ⟨h56, hr⟩ := Lb hr;refine td hΓ [5] [105, 6] [] [(false, []), (false, []), (false, []), (false, []), (false, []), (false, []), (false, []), (false, []), (false, []), (false, []), (true, []), (false, [])] (by simp [h53, h54, h55, h56]; exact rr) ?_;obtain rfl := La hr;exact AWp.ret (Ld (by simp))
          ·refine AWp.skip ?_;refine tq hΓ [5] [105, 6] ?_ (by simp [h53]; exact rr);obtain rfl := La hr;exact AWp.ret (Ld (by simp))
@[simp] noncomputable def gA.S : Sp
  | [.lit (.string x0), .sl e1 _], _ => (fun (r : Ta × Bool) => some { av := .tup [.agg [.lit (.int .i64 (r.1.fb)), .lit (.string (r.1.fd)), .lit (.string (r.1.ff)), .lit (.int .i64 (r.1.fc)), .lit (.int .i64 (r.1.fOf)), .lit (.int .i64 (r.1.fg)), .lit (.int .i64 (r.1.fh)), .lit (.bool (r.1.fOn)), .lit (.bool (r.1.fe)), .sl ((r.1.fa).map (eNum .u32)) .no], .lit (.bool (r.2))], M := none, obl := e1 = (e1.map decS).map eTxt ∧ (gA x0 (e1.map decS)).isSome = true }) ((gA x0 (e1.map decS)).getD dflt)
  | _, _ => none
theorem gA.ok : SpecOk Tryz.prog 25 gA.S := by
 intro l M out h;unfold gA.S at h;split at h
 ·rename_i x0 e1 k1
  try dsimp only at h
  cases h;refine callOk_of fun ho => ?_;obtain ⟨ox1, hs⟩ := ho;generalize (e1.map decS) = x1 at *
  subst ox1;obtain ⟨r, hr⟩ := so1 hs;simp only [hr, gd1];have q := Lg (M := M) [] (gA.can x0 x1 r hr) (by simp) rfl ixn;exact callOk_conv q trivial (by simp) (by simp [frameOut]) (by simp [frameOut])
 ·cases h
@[simp] def gK.out (_x0 : ByteArray) (r : Bool) : Out := { av := .lit (.bool r), M := none }
def gK.fin (x0 : ByteArray) (r : Bool) (σ : St) : Prop := finK (gK.out x0 r) [] σ.M (resA Tryz.ty σ.A σ.M Tryz.f23.results.toList)
theorem gK.can (x0 : ByteArray) (r : Bool) (hr : gK x0 = some r) : CallOk Tryz.prog 23 [.lit (.string x0)] [] (gK.out x0 r) := by
 unfold gK at hr;have hΓ := gamL_nil (P := Tryz.prog);refine cw Tryz.func23 rfl (by kernel_rfl) rfl rfl (by simp) fun _ _ _ => ?_;refine tq hΓ [] [] ?_;refine AWp.seq ?_;refine tq hΓ [5, 6, 7] [] ?_ (by simp (config := { maxSteps := 2000000 }); exact rr);refine AWp.loopE (fun (s1 : Int) (γ1 : Unit) => ⟨[⟨5, none, .sl ([⟨#[97, 117, 100, 105, 111]⟩, ⟨#[99, 114, 101, 100, 105, 116]⟩, ⟨#[100, 97, 116, 97]⟩, ⟨#[106, 111, 105, 110]⟩, ⟨#[108, 101, 97, 118, 101]⟩, ⟨#[109, 117, 116, 101]⟩, ⟨#[112, 97, 117, 115, 101]⟩, ⟨#[115, 117, 98, 115, 99, 114, 105, 98, 101]⟩, ⟨#[116, 105, 99, 107]⟩, ⟨#[117, 110, 112, 117, 98, 108, 105, 115, 104]⟩, ⟨#[117, 110, 115, 117, 98, 115, 99, 114, 105, 98, 101]⟩, ⟨#[118, 105, 100, 101, 111]⟩].map eTxt) .full⟩, ⟨6, none, .n 12⟩, ⟨7, none, .n s1⟩, ⟨0, none, .s x0⟩], []⟩) (fun (v1 : Unit) (γ1a : Unit) => ⟨[], []⟩) (gK.fin x0) hr () 0 (by simp) (fun s1 f γ1 hr => ?_) (fun v1 γ1a σ1 m1 hr hc => ?_) (fun _ h => h)
 ·unfold gK.loop1 at hr;refine tq hΓ [8] [] ?_;refine AWp.seq ?_;refine AWp.cnd hr (by simp) (fun h4 hr => ?_) (fun h4 hr => ?_)
  ·refine AWp.skip ?_;refine AWp.seq ?_;refine AWp.block ?_;obtain ⟨h5, hr⟩ := Lb hr;refine tq hΓ [4] [8] ?_ (by simp [h4, h5]; exact rr);refine tq hΓ [13] [4] ?_ (by simp; exact rr);refine AWp.cnd hr (by simp) (fun h6 hr => ?_) (fun h6 hr => ?_)
   ·refine tq hΓ [2] [13, 5, 6, 7, 0] ?_ (by simp [h6]; exact rr);refine AWp.ret ?_;obtain rfl := La hr;refine round_ret ?_;refine Ld ?_;simp
   ·refine AWp.skip ?_;refine tl hΓ [7] [13] ?_ (by simp [h6]; exact rr);obtain rfl := La hr;exact Lo () 0 (by first | (simp; done) | simp [h4, h5, h6])
  ·refine AWp.exit ?_;obtain rfl := La hr;exact Lp () 0 (by first | (simp; done) | simp [h4])
 ·refine AWp.conv hc ?_;refine tq hΓ [2] [] ?_;obtain rfl := La hr;exact AWp.ret (Ld (by simp))
@[simp] noncomputable def gK.S : Sp
  | [.lit (.string x0)], _ => some { av := .lit (.bool ((gK x0).getD dflt)), M := none, obl := (gK x0).isSome = true }
  | _, _ => none
theorem gK.ok : SpecOk Tryz.prog 23 gK.S := by
 intro l M out h;unfold gK.S at h;split at h
 ·rename_i x0;cases h;refine callOk_of fun ho => ?_;have hs := ho;obtain ⟨r, hr⟩ := so1 hs;simp only [hr, gd1];have q := Lg (M := M) [] (gK.can x0 r hr) (by simp) rfl ixn;exact callOk_conv q trivial (by simp) (by simp [frameOut]) (by simp [frameOut])
 ·cases h
end Go.Proofs
