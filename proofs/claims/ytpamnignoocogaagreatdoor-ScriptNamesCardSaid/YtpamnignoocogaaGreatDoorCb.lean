import Derived.Test.YtpamnignoocogaaGreatDoorM02
import Derived.Test.YtpamnignoocogaaGreatDoorTy
import Derived.Test.YtpamnignoocogaaGreatDoorM12
import Derived.Test.YtpamnignoocogaaGreatDoorM14
import Derived.Test.YtpamnignoocogaaGreatDoorCa
set_option maxRecDepth 100000
set_option maxHeartbeats 4000000
namespace Go.Proofs
open Go.Ab
@[simp] def gF.m (x0 : Tb) : List AObj := [.blk x0.enc]
@[simp] def gF.out (_x0 : Tb) (r : Bool × Tb) : Out := { av := .lit (.bool r.1), M := some [.blk [.lit (.string r.2.fS), .lit (.int .i64 r.2.fE)]] }
def gF.fin (x0 : Tb) (r : Bool × Tb) (σ : St) : Prop := finK (gF.out x0 r) (gF.m x0) σ.M (resA Tryz.ty σ.A σ.M Tryz.f108.results.toList)
theorem gF.can (x0 : Tb) (r : Bool × Tb) (hr : gF x0 = some r) : CallOk Tryz.prog 108 [.ptr 0 0] (gF.m x0) (gF.out x0 r) := by
 unfold gF at hr;have hΓ := (gamL_cons gq.ok (gamL_cons gv.ok (gamL_nil)) : GamOk Tryz.prog _);refine cw Tryz.func108 rfl (by kernel_rfl) rfl rfl (by simp) fun _ _ _ => ?_;refine tq hΓ [] [] ?_;obtain ⟨r1, h4, hr⟩ := Ld hr;refine tq hΓ [3] [] ?_ (by simp [h4]; exact rr);refine AWp.meetF (fun (v1 : Tb) (γ1 : Unit) => ⟨[⟨3, none, .lit (.int .u8 r1.1)⟩], [.blk v1.enc]⟩) (gF.fin x0) hr (fun f hr => ?_) (fun v1 γ1 hr => ?_) (fun _ h => h)
 ·refine tq hΓ [7] [] ?_ (by simp; exact rr);refine AWp.cnd hr (by simp) (fun h5 hr => ?_) (fun h5 hr => ?_)
  ·obtain ⟨r2, h6, hr⟩ := Ld hr;refine tl hΓ [] [7, 0] ?_ (by simp [h5, h6]; exact rr);obtain rfl := La hr;exact meet_go () 1 (by first | (simp; done) | simp [h4, h5, h6])
  ·refine AWp.skip ?_;obtain rfl := La hr;exact meet_go () 1 (by first | (simp; done) | simp [h4, h5])
 ·refine tq hΓ [2] [3] ?_ (by simp; exact rr);obtain rfl := La hr;exact AWp.ret (Le (by simp))
@[simp] noncomputable def gF.S : Sp
  | [.ptr i0 0], M => (rdB M i0).bind fun c0 => some { av := .lit (.bool (((gF (Tb.dec c0)).getD dflt).1)), M := some (M.set i0 (.blk [.lit (.string (((gF (Tb.dec c0)).getD dflt).2.fS)), .lit (.int .i64 (((gF (Tb.dec c0)).getD dflt).2.fE))])), obl := c0 = Tb.enc (Tb.dec c0) ∧ (gF (Tb.dec c0)).isSome = true }
  | _, _ => none
theorem gF.ok : SpecOk Tryz.prog 108 gF.S := by
 intro l M out h;unfold gF.S at h;split at h
 ·rename_i i0;obtain ⟨c0, hM0, h⟩ := bB h;cases h;refine callOk_of fun ho => ?_;obtain ⟨oc0, hs⟩ := ho;generalize (Tb.dec c0) = y0 at *
  subst oc0;obtain ⟨r, hr⟩ := so1 hs;simp only [hr, gd1];have q := Lh (M := M) [i0] (gF.can y0 r hr) (by simp) rfl (ix (by simp [hM0]) ixn);exact callOk_conv q trivial (by simp [into]) (by simp [frameOut]) (by simp [frameOut])
 ·cases h
@[simp] def gg.m (x0 : Ta) (k0 : Bool) (x1 : Tb) (_x2 : Int) : List AObj := [.blk [.lit (.int .i64 x0.fa), .lit (.string x0.fc), .lit (.string x0.fe), .lit (.int .i64 x0.fd), .lit (.int .i64 x0.fOf), .lit (.int .i64 x0.fg), .lit (.int .i64 x0.fh), .lit (.bool x0.fOn), .lit (.bool x0.ff), .sl (x0.fb.map (eNum .u32)) (tokB k0)], .blk x1.enc]
@[simp] def gg.out (_x0 : Ta) (_k0 : Bool) (_x1 : Tb) (_x2 : Int) (r : Ta × Bool × Tb) : Out := { av := .tup [], M := some [.blk [.lit (.int .i64 r.1.fa), .lit (.string r.1.fc), .lit (.string r.1.fe), .lit (.int .i64 r.1.fd), .lit (.int .i64 r.1.fOf), .lit (.int .i64 r.1.fg), .lit (.int .i64 r.1.fh), .lit (.bool r.1.fOn), .lit (.bool r.1.ff), .sl (r.1.fb.map (eNum .u32)) (tokB r.2.1)], .blk [.lit (.string r.2.2.fS), .lit (.int .i64 r.2.2.fE)]] }
def gg.fin (x0 : Ta) (k0 : Bool) (x1 : Tb) (x2 : Int) (r : Ta × Bool × Tb) (σ : St) : Prop := finK (gg.out x0 k0 x1 x2 r) (gg.m x0 k0 x1 x2) σ.M (resA Tryz.ty σ.A σ.M Tryz.f82.results.toList)
theorem gg.can (x0 : Ta) (k0 : Bool) (x1 : Tb) (x2 : Int) (r : Ta × Bool × Tb) (hr : gg x0 k0 x1 x2 = some r) : CallOk Tryz.prog 82 [.ptr 0 0, .ptr 1 0, .lit (.int .i32 x2)] (gg.m x0 k0 x1 x2) (gg.out x0 k0 x1 x2 r) := by
 unfold gg at hr;have hΓ := (gamL_cons gr.ok (gamL_cons gG.ok (gamL_cons gH.ok (gamL_cons gv.ok (gamL_cons gF.ok (gamL_nil))))) : GamOk Tryz.prog _);refine cw Tryz.func82 rfl (by kernel_rfl) rfl rfl (by simp) fun _ _ _ => ?_;refine tq hΓ [6] [2] ?_;refine AWp.block ?_;refine tq hΓ [7] [] ?_;refine AWp.cnd hr (by simp) (fun h23 hr => ?_) (fun h23 hr => ?_)
 ·obtain ⟨r1, h24, hr⟩ := Ld hr;obtain ⟨r2, h25, hr⟩ := Ld hr;refine tq hΓ [] [7, 6] ?_ (by simp [h23, h24, h25]; exact rr);obtain ⟨r3, h26, hr⟩ := Ld hr;obtain ⟨r4, h27, hr⟩ := Ld hr;refine tl hΓ [] [0, 1] ?_ (by simp [h26, h27]; exact rr);obtain rfl := La hr;exact fin_norm (by simp)
 ·refine tq hΓ [25] [7] ?_ (by simp [h23]; exact rr);refine AWp.cnd hr (by simp) (fun h28 hr => ?_) (fun h28 hr => ?_)
  ·obtain ⟨r5, h29, hr⟩ := Ld hr;refine tl hΓ [] [25, 6, 0, 1] ?_ (by simp [h28, h29]; exact rr);obtain rfl := La hr;exact fin_norm (by simp)
  ·refine tq hΓ [33] [25] ?_ (by simp [h28]; exact rr);refine AWp.cnd hr (by simp) (fun h30 hr => ?_) (fun h30 hr => ?_)
   ·obtain ⟨r6, h31, hr⟩ := Ld hr;refine tl hΓ [] [33, 6, 0, 1] ?_ (by simp [h30, h31]; exact rr);obtain rfl := La hr;exact fin_norm (by simp)
   ·refine tq hΓ [41] [33] ?_ (by simp [h30]; exact rr);refine AWp.cnd hr (by simp) (fun h32 hr => ?_) (fun h32 hr => ?_)
    ·obtain ⟨r7, h33, hr⟩ := Ld hr;refine tl hΓ [] [41, 6, 0, 1] ?_ (by simp [h32, h33]; exact rr);obtain rfl := La hr;exact fin_norm (by simp)
    ·refine tq hΓ [49] [41] ?_ (by simp [h32]; exact rr);refine AWp.cnd hr (by simp) (fun h34 hr => ?_) (fun h34 hr => ?_)
     ·obtain ⟨r8, h35, hr⟩ := Ld hr;refine tl hΓ [] [49, 6, 0, 1] ?_ (by simp [h34, h35]; exact rr);obtain rfl := La hr;exact fin_norm (by simp)
     ·refine tq hΓ [57] [49] ?_ (by simp [h34]; exact rr);refine AWp.cnd hr (by simp) (fun h36 hr => ?_) (fun h36 hr => ?_)
      ·obtain ⟨r9, h37, hr⟩ := Ld hr;refine tl hΓ [] [57, 6, 0, 1] ?_ (by simp [h36, h37]; exact rr);obtain rfl := La hr;exact fin_norm (by simp)
      ·refine tq hΓ [64] [57, 6] ?_ (by simp [h36]; exact rr);refine AWp.cnd hr (by simp) (fun h38 hr => ?_) (fun h38 hr => ?_)
       ·obtain ⟨r10, h39, hr⟩ := Ld hr;refine tq hΓ [] [64] ?_ (by simp [h38, h39]; exact rr);obtain ⟨r11, h40, hr⟩ := Ld hr;refine tq hΓ [72, 73] [] ?_ (by simp [h40]; exact rr);obtain ⟨h41, hr⟩ := Lb hr;refine AWp.equipC 0 9 1 (els := (x0.fb.map (eNum .u32))) (cells := _) rfl (by simp [h41]) (by simp) ?_;refine AWp.loopE (fun (s1 : Int × List Int × Tb) (γ1 : Nat) => ⟨[⟨72, none, .lit (.int .u8 r11.1)⟩, ⟨73, none, .lit (.int .u8 s1.1)⟩, ⟨0, none, .ptr 0 0⟩, ⟨1, none, .ptr 1 0⟩], [.blk [.n x0.fa, .s x0.fc, .s x0.fe, .n x0.fd, .n x0.fOf, .n x0.fg, .n x0.fh, .b x0.fOn, .b r10.1, .sl (s1.2.1.map (eNum .u32)) (.own 2 (γ1) 1)], .blk s1.2.2.enc, .room (γ1)]⟩) (fun (v1 : List Int × Tb) (γ1a : Nat) => ⟨[], [.blk [.n x0.fa, .s x0.fc, .s x0.fe, .n x0.fd, .n x0.fOf, .n x0.fg, .n x0.fh, .b x0.fOn, .b r10.1, .sl (v1.1.map (eNum .u32)) (.own 2 (γ1a) 1)], .blk v1.2.enc, .room (γ1a)]⟩) (gg.fin x0 k0 x1 x2) hr 0 3 (by simp) (fun s1 f γ1 hr => ?_) (fun v1 γ1a σ1 m1 hr hc => ?_) (fun _ h => h)
        ·unfold gg.loop1 at hr;refine tq hΓ [74] [] ?_ (by simp; exact rr);refine AWp.seq ?_;refine AWp.cnd hr (by simp) (fun h42 hr => ?_) (fun h42 hr => ?_)
         ·refine AWp.skip ?_;refine AWp.seq ?_;refine AWp.block ?_;obtain ⟨r12, h43, hr⟩ := Ld hr;obtain ⟨h44, hr⟩ := Lb hr;refine AWp.lst (AWp.regD Tryz.mixed Tryz.tyOk hΓ [] [74] [(0, 7), (0, 9), (1, 7), (2, 7), (3, 7), (4, 7)] [(false, []), (false, []), (false, []), (false, []), (false, []), (false, []), (true, []), (false, []), (true, []), (false, []), (false, []), (true, [])] (by kernel_rfl) rfl (by simp [h42, h43, h44]; exact rr)) ?_;refine tl hΓ [73] [] ?_ (by simp; exact rr);obtain rfl := La hr;exact Lo (γ1 + 1) 3 (by first | (simp; done) | simp [h23, h28, h30, h32, h34, h36, h38, h39, h40, h41, h42, h43, h44])
         ·refine AWp.exit ?_;obtain rfl := La hr;exact Lr (γ1) 3 (by first | (simp; done) | simp [h23, h28, h30, h32, h34, h36, h38, h39, h40, h41, h42])
        ·obtain rfl := La hr;refine fin_norm (fin_conv0 hc ?_);simp
       ·refine AWp.skip ?_;obtain rfl := La hr;exact fin_norm (by simp)
@[simp] noncomputable def gg.S : Sp
  | [.ptr i0 0, .ptr i1 0, .lit (.int .i32 x2)], M => (rdB M i0).bind fun c0 => (rdB M i1).bind fun c1 => (fun (y0 : Ta) => (fun (r : Ta × Bool × Tb) => some { av := .tup [], M := some ((M.set i0 (.blk [.lit (.int .i64 (r.1.fa)), .lit (.string (r.1.fc)), .lit (.string (r.1.fe)), .lit (.int .i64 (r.1.fd)), .lit (.int .i64 (r.1.fOf)), .lit (.int .i64 (r.1.fg)), .lit (.int .i64 (r.1.fh)), .lit (.bool (r.1.fOn)), .lit (.bool (r.1.ff)), .sl ((r.1.fb).map (eNum .u32)) (tokB (r.2.1))])).set i1 (.blk [.lit (.string (r.2.2.fS)), .lit (.int .i64 (r.2.2.fE))])), obl := c0 = [.lit (.int .i64 (y0.fa)), .lit (.string (y0.fc)), .lit (.string (y0.fe)), .lit (.int .i64 (y0.fd)), .lit (.int .i64 (y0.fOf)), .lit (.int .i64 (y0.fg)), .lit (.int .i64 (y0.fh)), .lit (.bool (y0.fOn)), .lit (.bool (y0.ff)), .sl ((y0.fb).map (eNum .u32)) (tokB (flagAt c0 9))] ∧ c1 = Tb.enc (Tb.dec c1) ∧ (gg y0 (flagAt c0 9) (Tb.dec c1) x2).isSome = true ∧ i0 ≠ i1 }) ((gg y0 (flagAt c0 9) (Tb.dec c1) x2).getD dflt)) (Ta.dec c0)
  | _, _ => none
theorem gg.ok : SpecOk Tryz.prog 82 gg.S := by
 intro l M out h;unfold gg.S at h;split at h
 ·rename_i i0 i1 x2;obtain ⟨c0, hM0, h⟩ := bB h;obtain ⟨c1, hM1, h⟩ := bB h
  try dsimp only at h
  cases h;refine callOk_of fun ho => ?_;obtain ⟨oc0, oc1, hs, hne0⟩ := ho;generalize (Ta.dec c0) = y0 at *
  generalize (flagAt c0 9) = kf0 at *
  generalize (Tb.dec c1) = y1 at *
  subst oc0;subst oc1;cases kf0
  all_goals
   obtain ⟨r, hr⟩ := so1 hs;obtain ⟨rq, rb, rr⟩ := r;cases rb
   all_goals
    simp only [hr, gd1];have q := Lh (M := M) [i0, i1] (gg.can y0 _ y1 x2 _ hr) (by simp [hne0]) rfl (ix (by simp [hM0]) (ix (by simp [hM1]) ixn));exact callOk_conv q trivial (by simp [into]) (by simp [frameOut]) (by simp [frameOut])
 ·cases h
@[simp] def gw.out (_x0 : ByteArray) (r : Ta × Int) : Out := { av := .tup [.agg [.lit (.int .i64 r.1.fa), .lit (.string r.1.fc), .lit (.string r.1.fe), .lit (.int .i64 r.1.fd), .lit (.int .i64 r.1.fOf), .lit (.int .i64 r.1.fg), .lit (.int .i64 r.1.fh), .lit (.bool r.1.fOn), .lit (.bool r.1.ff), .sl (r.1.fb.map (eNum .u32)) .no], .lit (.int .i64 r.2)], M := none }
def gw.fin (x0 : ByteArray) (r : Ta × Int) (σ : St) : Prop := finK (gw.out x0 r) [] σ.M (resA Tryz.ty σ.A σ.M Tryz.f40.results.toList)
theorem gw.can (x0 : ByteArray) (r : Ta × Int) (hr : gw x0 = some r) : CallOk Tryz.prog 40 [.lit (.string x0)] [] (gw.out x0 r) := by
 unfold gw at hr;have hΓ := (gamL_cons gg.ok (gamL_cons gA.ok (gamL_cons gK.ok (gamL_cons gq.ok (gamL_cons gv.ok (gamL_cons gt.ok (gamL_cons gO.ok (gamL_cons gac.ok (gamL_nil)))))))) : GamOk Tryz.prog _);refine cw Tryz.func40 rfl (by kernel_rfl) rfl rfl (by simp) fun _ _ _ => ?_;refine tq hΓ [2] [] ?_;obtain ⟨r1, h14, hr⟩ := Ld hr;refine tq hΓ [4] [0] ?_ (by simp [h14]; exact rr);obtain ⟨r2, h15, hr⟩ := Ld hr;refine tq hΓ [5] [] ?_ (by simp [h15]; exact rr);refine AWp.meetF (fun (v1 : Tb) (γ1 : Unit) => ⟨[⟨5, none, .ptr 2 0⟩, ⟨4, none, .ptr 1 0⟩, ⟨2, none, .ptr 0 0⟩], [.blk [.n 0, .s ⟨#[]⟩, .s ⟨#[]⟩, .n 0, .n 0, .n 0, .n 0, .b false, .b false, .sl [] .full], .blk v1.enc, .blk [.n (cvtI .i64 r2.1), .s ⟨#[]⟩, .s ⟨#[]⟩, .n 0, .n 0, .n 0, .n 0, .b false, .b false, .sl [] .full]]⟩) (gw.fin x0) hr (fun f hr => ?_) (fun v1 γ1 hr => ?_) (fun _ h => h)
 ·obtain ⟨r3, h16, hr⟩ := Ld hr;obtain ⟨h17, hr⟩ := Lb hr;refine tq hΓ [24] [] ?_ (by simp [h16, h17]; exact rr);refine AWp.cnd hr (by simp) (fun h18 hr => ?_) (fun h18 hr => ?_)
  ·obtain ⟨r4, h19, hr⟩ := Ld hr;refine tl hΓ [] [24] ?_ (by simp [h18, h19]; exact rr);obtain rfl := La hr;exact meet_go () 3 (by first | (simp; done) | simp [h14, h15, h16, h17, h18, h19])
  ·refine AWp.skip ?_;obtain rfl := La hr;exact meet_go () 3 (by first | (simp; done) | simp [h14, h15, h16, h17, h18])
 ·refine AWp.seq ?_;obtain ⟨r5, h20, hr⟩ := Ld hr;refine tq hΓ [30] [] ?_ (by simp [h20]; exact rr);refine AWp.loopE (fun (s2 : Tb × Int × ByteArray × ByteArray × Int × Int × Int × Int × Bool × Bool × Bool × List Int × Nat) (γ2 : Unit) => ⟨[⟨30, none, .it 3⟩, ⟨5, none, .ptr 2 0⟩, ⟨4, none, .ptr 1 0⟩, ⟨2, none, .ptr 0 0⟩], [.blk [.n 0, .s ⟨#[]⟩, .s ⟨#[]⟩, .n 0, .n 0, .n 0, .n 0, .b false, .b false, .sl [] .full], .blk s2.1.enc, .blk [.n s2.2.1, .s s2.2.2.1, .s s2.2.2.2.1, .n s2.2.2.2.2.1, .n s2.2.2.2.2.2.1, .n s2.2.2.2.2.2.2.1, .n s2.2.2.2.2.2.2.2.1, .b s2.2.2.2.2.2.2.2.2.1, .b s2.2.2.2.2.2.2.2.2.2.1, .sl (s2.2.2.2.2.2.2.2.2.2.2.2.1.map (eNum .u32)) (tokB s2.2.2.2.2.2.2.2.2.2.2.1)], .iter r5 s2.2.2.2.2.2.2.2.2.2.2.2.2]⟩) (fun (v2 : Tb × Int × ByteArray × ByteArray × Int × Int × Int × Int × Bool × Bool × Bool × List Int) (γ2a : Unit) => ⟨[⟨5, none, .ptr 2 0⟩, ⟨4, none, .ptr 1 0⟩, ⟨2, none, .ptr 0 0⟩], [.blk [.n 0, .s ⟨#[]⟩, .s ⟨#[]⟩, .n 0, .n 0, .n 0, .n 0, .b false, .b false, .sl [] .full], .blk v2.1.enc, .blk [.n v2.2.1, .s v2.2.2.1, .s v2.2.2.2.1, .n v2.2.2.2.2.1, .n v2.2.2.2.2.2.1, .n v2.2.2.2.2.2.2.1, .n v2.2.2.2.2.2.2.2.1, .b v2.2.2.2.2.2.2.2.2.1, .b v2.2.2.2.2.2.2.2.2.2.1, .sl (v2.2.2.2.2.2.2.2.2.2.2.2.map (eNum .u32)) (tokB v2.2.2.2.2.2.2.2.2.2.2.1)], .dead]⟩) (gw.fin x0) hr () 4 (by simp) (fun s2 f γ2 hr => ?_) (fun v2 γ2a σ1 m1 hr hc => ?_) (fun _ h => h)
  ·unfold gw.loop2 at hr;cases h21 : (nextB r5 s2.2.2.2.2.2.2.2.2.2.2.2.2) with
   | true =>
     have hr := cond_t h21 hr;refine tq hΓ [31, 32] [] ?_ (by simp [h21]; exact rr);refine AWp.seq ?_;refine AWp.cond (b := true) (by simp) (fun hb => ?_) (fun hb => ?_)
     ·refine AWp.skip ?_;refine AWp.block ?_;refine tq hΓ [7] [31, 32] ?_ (by simp; exact rr);obtain ⟨r6, h22, hr⟩ := Ld hr;refine tl hΓ [] [7] ?_ (by simp [h22]; exact rr);obtain rfl := La hr;exact Lo () 4 (by first | (simp; done) | simp [h14, h15, h20, h21, h22])
     ·cases hb
   | false =>
     have hr := cond_f h21 hr;refine tq hΓ [31, 32] [] ?_ (by simp [h21]; exact rr);refine AWp.seq ?_;refine AWp.cond (b := false) (by simp) (fun hb => ?_) (fun hb => ?_)
     ·cases hb
     ·refine AWp.exit ?_;obtain rfl := La hr;exact Lr () 4 (by first | (simp; done) | simp [h14, h15, h20, h21])
  ·refine AWp.conv hc ?_;refine AWp.seq ?_;obtain ⟨r6, h23, hr⟩ := Ld hr;refine tq hΓ [8] [4] ?_ (by simp [h23]; exact rr);refine tq hΓ [40] [] ?_ (by simp; exact rr);refine AWp.cnd hr (by simp) (fun h24 hr => ?_) (fun h24 hr => ?_)
   ·refine tq hΓ [3] [40, 8, 5] ?_ (by simp [h24]; exact rr);obtain rfl := La hr;exact AWp.ret (Le (by simp))
   ·refine AWp.skip ?_;refine AWp.seq ?_;obtain ⟨r7, h25, hr⟩ := Ld hr;refine tq hΓ [9] [40, 8] ?_ (by simp [h24, h25]; exact rr);refine tq hΓ [46] [] ?_ (by simp; exact rr);refine AWp.cnd hr (by simp) (fun h26 hr => ?_) (fun h26 hr => ?_)
    ·refine tq hΓ [3] [46, 9, 5] ?_ (by simp [h26]; exact rr);obtain rfl := La hr;exact AWp.ret (Le (by simp))
    ·refine AWp.skip ?_;refine tq hΓ [3] [46, 9, 5] ?_ (by simp [h26]; exact rr);obtain rfl := La hr;exact AWp.ret (Le (by simp))
@[simp] noncomputable def gw.S : Sp
  | [.lit (.string x0)], _ => (fun (r : Ta × Int) => some { av := .tup [.agg [.lit (.int .i64 (r.1.fa)), .lit (.string (r.1.fc)), .lit (.string (r.1.fe)), .lit (.int .i64 (r.1.fd)), .lit (.int .i64 (r.1.fOf)), .lit (.int .i64 (r.1.fg)), .lit (.int .i64 (r.1.fh)), .lit (.bool (r.1.fOn)), .lit (.bool (r.1.ff)), .sl ((r.1.fb).map (eNum .u32)) .no], .lit (.int .i64 (r.2))], M := none, obl := (gw x0).isSome = true }) ((gw x0).getD dflt)
  | _, _ => none
theorem gw.ok : SpecOk Tryz.prog 40 gw.S := by
 intro l M out h;unfold gw.S at h;split at h
 ·rename_i x0
  try dsimp only at h
  cases h;refine callOk_of fun ho => ?_;have hs := ho;obtain ⟨r, hr⟩ := so1 hs;simp only [hr, gd1];have q := Lh (M := M) [] (gw.can x0 r hr) (by simp) rfl ixn;exact callOk_conv q trivial (by simp) (by simp [frameOut]) (by simp [frameOut])
 ·cases h
end Go.Proofs
