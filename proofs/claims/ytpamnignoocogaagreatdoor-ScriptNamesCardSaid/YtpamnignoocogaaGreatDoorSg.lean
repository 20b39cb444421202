import Derived.Test.YtpamnignoocogaaGreatDoorM14
import Derived.Test.YtpamnignoocogaaGreatDoorTy
import Derived.Test.YtpamnignoocogaaGreatDoorM08
import Derived.Test.YtpamnignoocogaaGreatDoorM17
set_option maxRecDepth 100000
set_option maxHeartbeats 4000000
namespace Go.Proofs
open Go.Ab
@[simp] def gR.out (_x0 : ByteArray) (_x1 : Int) (r : Int × Bool) : Out := { av := .tup [.lit (.int .i64 r.1), .lit (.bool r.2)], M := none }
theorem gR.can (x0 : ByteArray) (x1 : Int) (r : Int × Bool) (hr : gR x0 x1 = some r) : CallOk Tryz.prog 60 [.lit (.string x0), .lit (.int .i64 x1)] [] (gR.out x0 x1 r) := by
 unfold gR at hr;have hΓ := (gamL_cons gAtoi.ok (gamL_cons gTrim.ok (gamL_nil)) : GamOk Tryz.prog _);refine cw Tryz.func60 rfl (by kernel_rfl) rfl rfl (by simp) fun _ _ _ => ?_;refine tq hΓ [] [] ?_;refine AWp.seq ?_;cases h8 : (pickB (eqS x0 ⟨#[]⟩) true (ltI 10 (lenS x0))) with
 | true =>
   have hr := cond_t h8 hr;refine AWp.thn (AWp.regG Tryz.tyOk hΓ [(15, true)] (keep := [29]) (dead := []) (by kernel_rfl) rfl (by simp [h8]; exact rr)) ?_;refine AWp.cond (b := true) (by simp) (fun hb => ?_) (fun hb => ?_)
   ·refine tq hΓ [4, 5] [29, 0, 1] ?_ (by simp; exact rr);obtain rfl := La hr;exact AWp.ret (Le (by simp))
   ·cases hb
 | false =>
   have hr := cond_f h8 hr;obtain ⟨h9, hr⟩ := Lb hr;obtain ⟨h10, hr⟩ := Lb hr;obtain ⟨h11, hr⟩ := Lb hr;refine AWp.thn (AWp.regG Tryz.tyOk hΓ [(15, false)] (keep := [29]) (dead := []) (by kernel_rfl) rfl (by simp [h8, h9, h10, h11]; exact rr)) ?_;refine AWp.cnd hr (by simp) (fun h12 hr => ?_) (fun h12 hr => ?_)
   ·refine tq hΓ [4, 5] [29, 0, 1] ?_ (by simp [h12]; exact rr);obtain rfl := La hr;exact AWp.ret (Le (by simp))
   ·refine AWp.skip ?_;obtain ⟨h13, hr⟩ := Lb hr;obtain ⟨h14, hr⟩ := Lb hr;refine tq hΓ [6, 7] [29, 0] ?_ (by simp [h12, h13, h14]; exact rr);refine tq hΓ [4, 5] [6, 7, 1] ?_ (by simp; exact rr);obtain rfl := La hr;exact AWp.ret (Le (by simp))
@[simp] noncomputable def gR.S : Sp
  | [.lit (.string x0), .lit (.int .i64 x1)], _ => some { av := .tup [.lit (.int .i64 (((gR x0 x1).getD dflt).1)), .lit (.bool (((gR x0 x1).getD dflt).2))], M := none, obl := (gR x0 x1).isSome = true }
  | _, _ => none
theorem gR.ok : SpecOk Tryz.prog 60 gR.S := by
 intro l M out h;unfold gR.S at h;split at h
 ·rename_i x0 x1;cases h;refine callOk_of fun ho => ?_;have hs := ho;obtain ⟨r, hr⟩ := so1 hs;simp only [hr, gd1];have q := Lh (M := M) [] (gR.can x0 x1 r hr) (by simp) rfl ixn;exact callOk_conv q trivial (by simp) (by simp [frameOut]) (by simp [frameOut])
 ·cases h
@[simp] def gad.out (_x0 : ByteArray) (r : Bool × Bool) : Out := { av := .tup [.lit (.bool r.1), .lit (.bool r.2)], M := none }
theorem gad.can (x0 : ByteArray) (r : Bool × Bool) (hr : gad x0 = some r) : CallOk Tryz.prog 96 [.lit (.string x0)] [] (gad.out x0 r) := by
 unfold gad at hr;have hΓ := gamL_nil (P := Tryz.prog);refine cw Tryz.func96 rfl (by kernel_rfl) rfl rfl (by simp) fun _ _ _ => ?_;refine tq hΓ [] [] ?_;refine tq hΓ [2, 3] [0] ?_;obtain rfl := La hr;exact AWp.ret (Le (by simp))
@[simp] noncomputable def gad.S : Sp
  | [.lit (.string x0)], _ => some { av := .tup [.lit (.bool (((gad x0).getD dflt).1)), .lit (.bool (((gad x0).getD dflt).2))], M := none, obl := (gad x0).isSome = true }
  | _, _ => none
theorem gad.ok : SpecOk Tryz.prog 96 gad.S := by
 intro l M out h;unfold gad.S at h;split at h
 ·rename_i x0;cases h;refine callOk_of fun ho => ?_;have hs := ho;obtain ⟨r, hr⟩ := so1 hs;simp only [hr, gd1];have q := Lh (M := M) [] (gad.can x0 r hr) (by simp) rfl ixn;exact callOk_conv q trivial (by simp) (by simp [frameOut]) (by simp [frameOut])
 ·cases h
@[simp] def gk.out (_x0 : List ByteArray) (r : List Int × Bool) : Out := { av := .tup [.sl (r.1.map (eNum .i64)) .no, .lit (.bool r.2)], M := none }
def gk.fin (x0 : List ByteArray) (r : List Int × Bool) (σ : St) : Prop := finK (gk.out x0 r) [] σ.M (resA Tryz.ty σ.A σ.M Tryz.f59.results.toList)
theorem gk.can (x0 : List ByteArray) (r : List Int × Bool) (hr : gk x0 = some r) : CallOk Tryz.prog 59 [.sl (x0.map eTxt) .no] [] (gk.out x0 r) := by
 unfold gk at hr;have hΓ := (gamL_cons gR.ok (gamL_nil) : GamOk Tryz.prog _);refine cw Tryz.func59 rfl (by kernel_rfl) rfl rfl (by simp) fun _ _ _ => ?_;refine tq hΓ [] [] ?_;refine tq hΓ [4] [] ?_;refine AWp.seq ?_;refine tq hΓ [9, 10, 11] [0] ?_;refine AWp.equip 4 1 (els := []) (by simp) (by simp) ?_;refine AWp.loopE (fun (s1 : Int × List Int) (γ1 : Nat) => ⟨[⟨9, none, .sl (x0.map eTxt) .no⟩, ⟨10, none, .n (lenL x0)⟩, ⟨11, none, .n s1.1⟩, ⟨4, none, .sl (s1.2.map (eNum .i64)) (.own 0 (γ1) 1)⟩], [.room (γ1)]⟩) (fun (v1 : List Int) (γ1a : Nat) => ⟨[⟨4, none, .sl (v1.map (eNum .i64)) (.own 0 (γ1a) 1)⟩], [.room (γ1a)]⟩) (gk.fin x0) hr 0 1 (by simp) (fun s1 f γ1 hr => ?_) (fun v1 γ1a σ1 m1 hr hc => ?_) (fun _ h => h)
 ·unfold gk.loop1 at hr;refine tq hΓ [12] [] ?_;refine AWp.seq ?_;refine AWp.cnd hr (by simp) (fun h6 hr => ?_) (fun h6 hr => ?_)
  ·refine AWp.skip ?_;refine AWp.seq ?_;refine AWp.block ?_;obtain ⟨h7, hr⟩ := Lb hr;refine tq hΓ [6] [12] ?_ (by simp [h6, h7]; exact rr);obtain ⟨r1, h8, hr⟩ := Ld hr;refine tq hΓ [7, 8] [6] ?_ (by simp [h8]; exact rr);refine AWp.seq ?_;refine tq hΓ [21] [8] ?_ (by simp; exact rr);refine AWp.cnd hr (by simp) (fun h9 hr => ?_) (fun h9 hr => ?_)
   ·refine tq hΓ [2, 3] [21, 7, 9, 10, 11, 4] ?_ (by simp [h9]; exact rr);refine AWp.ret ?_;obtain rfl := La hr;refine round_ret ?_;refine Le ?_;simp
   ·refine AWp.skip ?_;obtain ⟨h10, hr⟩ := Lb hr;refine tl hΓ [4] [21, 7] ?_ (by simp [h9, h10]; exact rr);refine tl hΓ [11] [] ?_ (by simp; exact rr);obtain rfl := La hr;exact Lo (γ1 + 1) 1 (by first | (simp; done) | simp [h6, h7, h8, h9, h10])
  ·refine AWp.exit ?_;obtain rfl := La hr;exact Lr (γ1) 1 (by first | (simp; done) | simp [h6])
 ·refine AWp.conv hc ?_;refine tq hΓ [2, 3] [4] ?_;obtain rfl := La hr;exact AWp.ret (Le (by simp))
@[simp] noncomputable def gk.S : Sp
  | [.sl e0 _], _ => some { av := .tup [.sl ((((gk (e0.map decS)).getD dflt).1).map (eNum .i64)) .no, .lit (.bool (((gk (e0.map decS)).getD dflt).2))], M := none, obl := e0 = (e0.map decS).map eTxt ∧ (gk (e0.map decS)).isSome = true }
  | _, _ => none
theorem gk.ok : SpecOk Tryz.prog 59 gk.S := by
 intro l M out h;unfold gk.S at h;split at h
 ·rename_i e0 k0;cases h;refine callOk_of fun ho => ?_;obtain ⟨ox0, hs⟩ := ho;generalize (e0.map decS) = x0 at *
  subst ox0;obtain ⟨r, hr⟩ := so1 hs;simp only [hr, gd1];have q := Lh (M := M) [] (gk.can x0 r hr) (by simp) rfl ixn;exact callOk_conv q trivial (by simp) (by simp [frameOut]) (by simp [frameOut])
 ·cases h
@[simp] def gJ.out (_x0 : List ByteArray) (r : List Int × Bool) : Out := { av := .tup [.sl (r.1.map (eNum .u32)) .no, .lit (.bool r.2)], M := none }
def gJ.fin (x0 : List ByteArray) (r : List Int × Bool) (σ : St) : Prop := finK (gJ.out x0 r) [] σ.M (resA Tryz.ty σ.A σ.M Tryz.f61.results.toList)
theorem gJ.can (x0 : List ByteArray) (r : List Int × Bool) (hr : gJ x0 = some r) : CallOk Tryz.prog 61 [.sl (x0.map eTxt) .no] [] (gJ.out x0 r) := by
 unfold gJ at hr;have hΓ := (gamL_cons gk.ok (gamL_nil) : GamOk Tryz.prog _);refine cw Tryz.func61 rfl (by kernel_rfl) rfl rfl (by simp) fun _ _ _ => ?_;refine tq hΓ [] [] ?_;obtain ⟨r1, h5, hr⟩ := Ld hr;refine tq hΓ [4, 5] [0] ?_ (by simp [h5]; exact rr);refine tq hΓ [6] [] ?_ (by simp; exact rr);refine AWp.seq ?_;refine tq hΓ [14, 15, 16] [4] ?_ (by simp; exact rr);refine AWp.equip 6 1 (els := []) (by simp) (by simp) ?_;refine AWp.loopE (fun (s1 : Int × List Int) (γ1 : Nat) => ⟨[⟨14, none, .sl (r1.1.map (eNum .i64)) .no⟩, ⟨15, none, .n (lenL r1.1)⟩, ⟨16, none, .n s1.1⟩, ⟨6, none, .sl (s1.2.map (eNum .u32)) (.own 0 (γ1) 1)⟩, ⟨5, none, .b r1.2⟩], [.room (γ1)]⟩) (fun (v1 : List Int) (γ1a : Nat) => ⟨[⟨6, none, .sl (v1.map (eNum .u32)) (.own 0 (γ1a) 1)⟩, ⟨5, none, .b r1.2⟩], [.room (γ1a)]⟩) (gJ.fin x0) hr 0 1 (by simp) (fun s1 f γ1 hr => ?_) (fun v1 γ1a σ1 m1 hr hc => ?_) (fun _ h => h)
 ·unfold gJ.loop1 at hr;refine tq hΓ [17] [] ?_ (by simp; exact rr);refine AWp.seq ?_;refine AWp.cnd hr (by simp) (fun h6 hr => ?_) (fun h6 hr => ?_)
  ·refine AWp.skip ?_;refine AWp.seq ?_;refine AWp.block ?_;obtain ⟨h7, hr⟩ := Lb hr;refine tq hΓ [8] [17] ?_ (by simp [h6, h7]; exact rr);obtain ⟨h8, hr⟩ := Lb hr;refine tl hΓ [6] [8] ?_ (by simp [h8]; exact rr);refine tl hΓ [16] [] ?_ (by simp; exact rr);obtain rfl := La hr;exact Lo (γ1 + 1) 1 (by first | (simp; done) | simp [h5, h6, h7, h8])
  ·refine AWp.exit ?_;obtain rfl := La hr;exact Lr (γ1) 1 (by first | (simp; done) | simp [h5, h6])
 ·refine AWp.conv hc ?_;refine tq hΓ [2, 3] [6, 5] ?_ (by simp; exact rr);obtain rfl := La hr;exact AWp.ret (Le (by simp))
@[simp] noncomputable def gJ.S : Sp
  | [.sl e0 _], _ => some { av := .tup [.sl ((((gJ (e0.map decS)).getD dflt).1).map (eNum .u32)) .no, .lit (.bool (((gJ (e0.map decS)).getD dflt).2))], M := none, obl := e0 = (e0.map decS).map eTxt ∧ (gJ (e0.map decS)).isSome = true }
  | _, _ => none
theorem gJ.ok : SpecOk Tryz.prog 61 gJ.S := by
 intro l M out h;unfold gJ.S at h;split at h
 ·rename_i e0 k0;cases h;refine callOk_of fun ho => ?_;obtain ⟨ox0, hs⟩ := ho;generalize (e0.map decS) = x0 at *
  subst ox0;obtain ⟨r, hr⟩ := so1 hs;simp only [hr, gd1];have q := Lh (M := M) [] (gJ.can x0 r hr) (by simp) rfl ixn;exact callOk_conv q trivial (by simp) (by simp [frameOut]) (by simp [frameOut])
 ·cases h
@[simp] def gS.out (_x0 : ByteArray) (_x1 : List ByteArray) (r : Ta × Bool) : Out := { av := .tup [.agg [.lit (.int .i64 r.1.fa), .lit (.string r.1.fc), .lit (.string r.1.fe), .lit (.int .i64 r.1.fd), .lit (.int .i64 r.1.fOf), .lit (.int .i64 r.1.fg), .lit (.int .i64 r.1.fh), .lit (.bool r.1.fOn), .lit (.bool r.1.ff), .sl (r.1.fb.map (eNum .u32)) .no], .lit (.bool r.2)], M := none }
theorem gS.can (x0 : ByteArray) (x1 : List ByteArray) (r : Ta × Bool) (hr : gS x0 x1 = some r) : CallOk Tryz.prog 62 [.lit (.string x0), .sl (x1.map eTxt) .no] [] (gS.out x0 x1 r) := by
 unfold gS at hr;have hΓ := (gamL_cons gk.ok (gamL_cons gad.ok (gamL_nil)) : GamOk Tryz.prog _);refine cw Tryz.func62 rfl (by kernel_rfl) rfl rfl (by simp) fun _ _ _ => ?_;refine tq hΓ [4] [] ?_;obtain ⟨h13, hr⟩ := Lb hr;obtain ⟨r1, h14, hr⟩ := Ld hr;refine tq hΓ [6, 7] [] ?_ (by simp [h13, h14]; exact rr);obtain ⟨h15, hr⟩ := Lb hr;obtain ⟨r2, h16, hr⟩ := Ld hr;refine tq hΓ [8, 9] [1] ?_ (by simp [h15, h16]; exact rr);refine AWp.seq ?_;refine AWp.block ?_;refine tq hΓ [29] [9, 7] ?_ (by simp; exact rr);refine AWp.cnd hr (by simp) (fun h17 hr => ?_) (fun h17 hr => ?_)
 ·refine tq hΓ [5] [29, 8, 6, 0] ?_ (by simp [h17]; exact rr);obtain rfl := La hr;exact AWp.ret (Le (by simp))
 ·refine tq hΓ [37] [29] ?_ (by simp [h17]; exact rr);refine AWp.cnd hr (by simp) (fun h18 hr => ?_) (fun h18 hr => ?_)
  ·obtain ⟨h19, hr⟩ := Lb hr;obtain ⟨h20, hr⟩ := Lb hr;refine td hΓ [5] [37, 8, 6, 0] [] [(false, []), (false, []), (false, []), (false, []), (false, []), (false, []), (false, []), (false, []), (true, []), (false, [])] (by simp [h18, h19, h20]; exact rr) ?_;obtain rfl := La hr;exact AWp.ret (Le (by simp))
  ·refine tq hΓ [53] [37, 0] ?_ (by simp [h18]; exact rr);refine AWp.cnd hr (by simp) (fun h21 hr => ?_) (fun h21 hr => ?_)
   ·obtain ⟨h22, hr⟩ := Lb hr;obtain ⟨h23, hr⟩ := Lb hr;obtain ⟨h24, hr⟩ := Lb hr;refine td hΓ [5] [53, 8, 6] [] [(false, []), (false, []), (false, []), (false, []), (false, []), (false, []), (false, []), (false, []), (false, []), (false, []), (false, []), (true, []), (false, [])] (by simp [h21, h22, h23, h24]; exact rr) ?_;obtain rfl := La hr;exact AWp.ret (Le (by simp))
   ·refine AWp.skip ?_;refine tq hΓ [5] [53, 8, 6] ?_ (by simp [h21]; exact rr);obtain rfl := La hr;exact AWp.ret (Le (by simp))
@[simp] noncomputable def gS.S : Sp
  | [.lit (.string x0), .sl e1 _], _ => (fun (r : Ta × Bool) => some { av := .tup [.agg [.lit (.int .i64 (r.1.fa)), .lit (.string (r.1.fc)), .lit (.string (r.1.fe)), .lit (.int .i64 (r.1.fd)), .lit (.int .i64 (r.1.fOf)), .lit (.int .i64 (r.1.fg)), .lit (.int .i64 (r.1.fh)), .lit (.bool (r.1.fOn)), .lit (.bool (r.1.ff)), .sl ((r.1.fb).map (eNum .u32)) .no], .lit (.bool (r.2))], M := none, obl := e1 = (e1.map decS).map eTxt ∧ (gS x0 (e1.map decS)).isSome = true }) ((gS x0 (e1.map decS)).getD dflt)
  | _, _ => none
theorem gS.ok : SpecOk Tryz.prog 62 gS.S := by
 intro l M out h;unfold gS.S at h;split at h
 ·rename_i x0 e1 k1
  try dsimp only at h
  cases h;refine callOk_of fun ho => ?_;obtain ⟨ox1, hs⟩ := ho;generalize (e1.map decS) = x1 at *
  subst ox1;obtain ⟨r, hr⟩ := so1 hs;simp only [hr, gd1];have q := Lh (M := M) [] (gS.can x0 x1 r hr) (by simp) rfl ixn;exact callOk_conv q trivial (by simp) (by simp [frameOut]) (by simp [frameOut])
 ·cases h
@[simp] def gN.out (_x0 : ByteArray) (_x1 : List ByteArray) (r : Ta × Bool) : Out := { av := .tup [.agg [.lit (.int .i64 r.1.fa), .lit (.string r.1.fc), .lit (.string r.1.fe), .lit (.int .i64 r.1.fd), .lit (.int .i64 r.1.fOf), .lit (.int .i64 r.1.fg), .lit (.int .i64 r.1.fh), .lit (.bool r.1.fOn), .lit (.bool r.1.ff), .sl (r.1.fb.map (eNum .u32)) .no], .lit (.bool r.2)], M := none }
theorem gN.can (x0 : ByteArray) (x1 : List ByteArray) (r : Ta × Bool) (hr : gN x0 x1 = some r) : CallOk Tryz.prog 34 [.lit (.string x0), .sl (x1.map eTxt) .no] [] (gN.out x0 x1 r) := by
 unfold gN at hr;have hΓ := (gamL_cons gk.ok (gamL_cons gJ.ok (gamL_cons gS.ok (gamL_nil))) : GamOk Tryz.prog _);refine cw Tryz.func34 rfl (by kernel_rfl) rfl rfl (by simp) fun _ _ _ => ?_;refine tq hΓ [4] [] ?_;refine AWp.seq ?_;refine AWp.block ?_;refine tq hΓ [12] [] ?_;refine AWp.cnd hr (by simp) (fun h30 hr => ?_) (fun h30 hr => ?_)
 ·obtain ⟨h31, hr⟩ := Lb hr;obtain ⟨h32, hr⟩ := Lb hr;refine td hΓ [5] [12, 0, 1] [] [(false, []), (false, []), (false, []), (false, []), (false, []), (false, []), (false, []), (true, []), (false, [])] (by simp [h30, h31, h32]; exact rr) ?_;obtain rfl := La hr;exact AWp.ret (Le (by simp))
 ·refine tq hΓ [27] [12] ?_ (by simp [h30]; exact rr);refine AWp.cnd hr (by simp) (fun h33 hr => ?_) (fun h33 hr => ?_)
  ·obtain ⟨h34, hr⟩ := Lb hr;obtain ⟨r1, h35, hr⟩ := Ld hr;refine tq hΓ [6, 7] [27] ?_ (by simp [h33, h34, h35]; exact rr);obtain ⟨h36, hr⟩ := Lb hr;obtain ⟨r2, h37, hr⟩ := Ld hr;refine tq hΓ [8, 9] [1] ?_ (by simp [h36, h37]; exact rr);refine AWp.seq ?_;refine tq hΓ [56] [9, 7] ?_ (by simp; exact rr);refine AWp.cnd hr (by simp) (fun h38 hr => ?_) (fun h38 hr => ?_)
   ·refine tq hΓ [5] [56, 8, 6, 0] ?_ (by simp [h38]; exact rr);obtain rfl := La hr;exact AWp.ret (Le (by simp))
   ·refine AWp.skip ?_;obtain ⟨h39, hr⟩ := Lb hr;obtain ⟨h40, hr⟩ := Lb hr;refine td hΓ [5] [56, 8, 6, 0] [] [(false, []), (false, []), (false, []), (false, []), (false, []), (false, []), (false, []), (false, []), (false, []), (false, []), (true, []), (false, [])] (by simp [h38, h39, h40]; exact rr) ?_;obtain rfl := La hr;exact AWp.ret (Le (by simp))
  ·refine tq hΓ [68] [27] ?_ (by simp [h33]; exact rr);refine AWp.cnd hr (by simp) (fun h41 hr => ?_) (fun h41 hr => ?_)
   ·obtain ⟨r3, h42, hr⟩ := Ld hr;refine tq hΓ [5] [68, 0, 1] ?_ (by simp [h41, h42]; exact rr);obtain rfl := La hr;exact AWp.ret (Le (by simp))
   ·refine AWp.skip ?_;obtain ⟨r4, h43, hr⟩ := Ld hr;refine tq hΓ [10, 11] [68, 1] ?_ (by simp [h41, h43]; exact rr);refine AWp.seq ?_;refine tq hΓ [91] [11] ?_ (by simp; exact rr);refine AWp.cnd hr (by simp) (fun h44 hr => ?_) (fun h44 hr => ?_)
    ·refine tq hΓ [5] [91, 10, 0] ?_ (by simp [h44]; exact rr);obtain rfl := La hr;exact AWp.ret (Le (by simp))
    ·refine AWp.skip ?_;refine AWp.seq ?_;refine AWp.block ?_;refine tq hΓ [93] [91] ?_ (by simp [h44]; exact rr);refine AWp.cnd hr (by simp) (fun h45 hr => ?_) (fun h45 hr => ?_)
     ·obtain ⟨h46, hr⟩ := Lb hr;refine tq hΓ [5] [93, 10, 0] ?_ (by simp [h45, h46]; exact rr);obtain rfl := La hr;exact AWp.ret (Le (by simp))
     ·refine tq hΓ [105] [93] ?_ (by simp [h45]; exact rr);refine AWp.cnd hr (by simp) (fun h47 hr => ?_) (fun h47 hr => ?_)
      ·obtain ⟨h48, hr⟩ := Lb hr;obtain ⟨h49, hr⟩ := Lb hr;refine td hΓ [5] [105, 10, 0] [] [(false, []), (false, []), (false, []), (false, []), (false, []), (false, []), (false, []), (true, []), (false, [])] (by simp [h47, h48, h49]; exact rr) ?_;obtain rfl := La hr;exact AWp.ret (Le (by simp))
      ·refine tq hΓ [120] [105] ?_ (by simp [h47]; exact rr);refine AWp.cnd hr (by simp) (fun h50 hr => ?_) (fun h50 hr => ?_)
       ·obtain ⟨h51, hr⟩ := Lb hr;obtain ⟨h52, hr⟩ := Lb hr;obtain ⟨h53, hr⟩ := Lb hr;obtain ⟨h54, hr⟩ := Lb hr;refine td hΓ [5] [120, 10, 0] [] [(false, []), (false, []), (false, []), (false, []), (false, []), (false, []), (false, []), (false, []), (false, []), (false, []), (false, []), (false, []), (false, []), (true, []), (false, [])] (by simp [h50, h51, h52, h53, h54]; exact rr) ?_;obtain rfl := La hr;exact AWp.ret (Le (by simp))
       ·refine tq hΓ [141] [120, 0] ?_ (by simp [h50]; exact rr);refine AWp.cnd hr (by simp) (fun h55 hr => ?_) (fun h55 hr => ?_)
        ·obtain ⟨h56, hr⟩ := Lb hr;obtain ⟨h57, hr⟩ := Lb hr;obtain ⟨h58, hr⟩ := Lb hr;refine td hΓ [5] [141, 10] [] [(false, []), (false, []), (false, []), (false, []), (false, []), (false, []), (false, []), (false, []), (false, []), (false, []), (true, []), (false, [])] (by simp [h55, h56, h57, h58]; exact rr) ?_;obtain rfl := La hr;exact AWp.ret (Le (by simp))
        ·refine AWp.skip ?_;refine tq hΓ [5] [141, 10] ?_ (by simp [h55]; exact rr);obtain rfl := La hr;exact AWp.ret (Le (by simp))
@[simp] noncomputable def gN.S : Sp
  | [.lit (.string x0), .sl e1 _], _ => (fun (r : Ta × Bool) => some { av := .tup [.agg [.lit (.int .i64 (r.1.fa)), .lit (.string (r.1.fc)), .lit (.string (r.1.fe)), .lit (.int .i64 (r.1.fd)), .lit (.int .i64 (r.1.fOf)), .lit (.int .i64 (r.1.fg)), .lit (.int .i64 (r.1.fh)), .lit (.bool (r.1.fOn)), .lit (.bool (r.1.ff)), .sl ((r.1.fb).map (eNum .u32)) .no], .lit (.bool (r.2))], M := none, obl := e1 = (e1.map decS).map eTxt ∧ (gN x0 (e1.map decS)).isSome = true }) ((gN x0 (e1.map decS)).getD dflt)
  | _, _ => none
theorem gN.ok : SpecOk Tryz.prog 34 gN.S := by
 intro l M out h;unfold gN.S at h;split at h
 ·rename_i x0 e1 k1
  try dsimp only at h
  cases h;refine callOk_of fun ho => ?_;obtain ⟨ox1, hs⟩ := ho;generalize (e1.map decS) = x1 at *
  subst ox1;obtain ⟨r, hr⟩ := so1 hs;simp only [hr, gd1];have q := Lh (M := M) [] (gN.can x0 x1 r hr) (by simp) rfl ixn;exact callOk_conv q trivial (by simp) (by simp [frameOut]) (by simp [frameOut])
 ·cases h
@[simp] def gj.out (_x0 : ByteArray) (_x1 : List ByteArray) (r : Tc × Bool) : Out := { av := .tup [.agg [.lit (.int .i64 r.1.fa), .lit (.int .i64 r.1.fd), .lit (.string r.1.fj), .lit (.int .i64 r.1.fN)], .lit (.bool r.2)], M := none }
theorem gj.can (x0 : ByteArray) (x1 : List ByteArray) (r : Tc × Bool) (hr : gj x0 x1 = some r) : CallOk Tryz.prog 33 [.lit (.string x0), .sl (x1.map eTxt) .no] [] (gj.out x0 x1 r) := by
 unfold gj at hr;have hΓ := (gamL_cons gQ.ok (gamL_cons gR.ok (gamL_cons gk.ok (gamL_nil))) : GamOk Tryz.prog _);refine cw Tryz.func33 rfl (by kernel_rfl) rfl rfl (by simp) fun _ _ _ => ?_;refine tq hΓ [4] [] ?_;refine AWp.seq ?_;refine AWp.block ?_;refine tq hΓ [12] [] ?_;refine AWp.cnd hr (by simp) (fun h12 hr => ?_) (fun h12 hr => ?_)
 ·refine tq hΓ [5] [12, 0, 1] ?_ (by simp [h12]; exact rr);obtain rfl := La hr;exact AWp.ret (Le (by simp))
 ·refine tq hΓ [21] [12] ?_ (by simp [h12]; exact rr);refine AWp.cnd hr (by simp) (fun h13 hr => ?_) (fun h13 hr => ?_)
  ·obtain ⟨r1, h14, hr⟩ := Ld hr;refine tq hΓ [6, 7] [21, 0, 1] ?_ (by simp [h13, h14]; exact rr);refine AWp.seq ?_;refine tq hΓ [35] [7] ?_ (by simp; exact rr);refine AWp.cnd hr (by simp) (fun h15 hr => ?_) (fun h15 hr => ?_)
   ·refine tq hΓ [5] [35, 6] ?_ (by simp [h15]; exact rr);obtain rfl := La hr;exact AWp.ret (Le (by simp))
   ·refine AWp.skip ?_;obtain ⟨h16, hr⟩ := Lb hr;obtain ⟨h17, hr⟩ := Lb hr;refine td hΓ [5] [35, 6] [] [(false, []), (false, []), (false, []), (false, []), (false, []), (false, []), (false, []), (true, []), (false, [])] (by simp [h15, h16, h17]; exact rr) ?_;obtain rfl := La hr;exact AWp.ret (Le (by simp))
  ·refine tq hΓ [44] [21, 0] ?_ (by simp [h13]; exact rr);refine AWp.cnd hr (by simp) (fun h18 hr => ?_) (fun h18 hr => ?_)
   ·obtain ⟨h19, hr⟩ := Lb hr;obtain ⟨r2, h20, hr⟩ := Ld hr;refine tq hΓ [8, 9] [44] ?_ (by simp [h18, h19, h20]; exact rr);obtain ⟨h21, hr⟩ := Lb hr;obtain ⟨r3, h22, hr⟩ := Ld hr;refine tq hΓ [10, 11] [1] ?_ (by simp [h21, h22]; exact rr);refine tq hΓ [5] [10, 11, 8, 9] ?_ (by simp; exact rr);obtain rfl := La hr;exact AWp.ret (Le (by simp))
   ·refine AWp.skip ?_;refine tq hΓ [5] [44, 1] ?_ (by simp [h18]; exact rr);obtain rfl := La hr;exact AWp.ret (Le (by simp))
@[simp] noncomputable def gj.S : Sp
  | [.lit (.string x0), .sl e1 _], _ => some { av := .tup [.agg [.lit (.int .i64 (((gj x0 (e1.map decS)).getD dflt).1.fa)), .lit (.int .i64 (((gj x0 (e1.map decS)).getD dflt).1.fd)), .lit (.string (((gj x0 (e1.map decS)).getD dflt).1.fj)), .lit (.int .i64 (((gj x0 (e1.map decS)).getD dflt).1.fN))], .lit (.bool (((gj x0 (e1.map decS)).getD dflt).2))], M := none, obl := e1 = (e1.map decS).map eTxt ∧ (gj x0 (e1.map decS)).isSome = true }
  | _, _ => none
theorem gj.ok : SpecOk Tryz.prog 33 gj.S := by
 intro l M out h;unfold gj.S at h;split at h
 ·rename_i x0 e1 k1;cases h;refine callOk_of fun ho => ?_;obtain ⟨ox1, hs⟩ := ho;generalize (e1.map decS) = x1 at *
  subst ox1;obtain ⟨r, hr⟩ := so1 hs;simp only [hr, gd1];have q := Lh (M := M) [] (gj.can x0 x1 r hr) (by simp) rfl ixn;exact callOk_conv q trivial (by simp) (by simp [frameOut]) (by simp [frameOut])
 ·cases h
@[simp] def gB.out  (r : List ByteArray) : Out := { av := .sl (r.map eTxt) .no, M := none }
theorem gB.can  (r : List ByteArray) (hr : gB = some r) : CallOk Tryz.prog 15 [] [] (gB.out  r) := by
 unfold gB at hr;have hΓ := gamL_nil (P := Tryz.prog);refine cw Tryz.func15 rfl (by kernel_rfl) rfl rfl (by simp) fun _ _ _ => ?_;refine tq hΓ [] [] ?_;refine tq hΓ [0] [] ?_ (by simp (config := { maxSteps := 2000000 }); exact rr);obtain rfl := La hr;exact AWp.ret (Le (by simp))
@[simp] noncomputable def gB.S : Sp
  | [], _ => some { av := .sl ((gB.getD dflt).map eTxt) .no, M := none, obl := gB.isSome = true }
  | _, _ => none
theorem gB.ok : SpecOk Tryz.prog 15 gB.S := by
 intro l M out h;unfold gB.S at h;split at h
 ·cases h;refine callOk_of fun ho => ?_;have hs := ho;obtain ⟨r, hr⟩ := so1 hs;simp only [hr, gd1];have q := Lh (M := M) [] (gB.can r hr) (by simp) rfl ixn;exact callOk_conv q trivial (by simp) (by simp [frameOut]) (by simp [frameOut])
 ·cases h
end Go.Proofs
