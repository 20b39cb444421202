/- That these functions compute what their plain functions do. No condition. -/
import Derived.Test.YtbijdlgffebenaaOxD
import Derived.Test.YtbijdlgffebenaaTy
import Derived.Test.YtbijdlgffebenaaM13
import Derived.Test.YtbijdlgffebenaaOw
namespace Go.Proofs
open Go.Ab
@[simp] def gOctetRead.out (_x0 : ByteArray) (r : OctetReader) : Out := { av := .ptr 0 0, M := some [.blk [.lit (.string r.fS), .lit (.int .i64 r.fE)]] }
set_option maxHeartbeats 4000000 in
set_option maxRecDepth 100000 in
theorem gOctetRead.can (x0 : ByteArray) (r : OctetReader) (hr : gOctetRead x0 = some r) : CallOk Try.prog 65 [.lit (.string x0)] [] (gOctetRead.out x0 r) := by
  unfold gOctetRead at hr
  have hΓ := gamL_nil (P := Try.prog)
  refine call_of_awp Try.tyOk Try.func65 rfl (by kernel_rfl) rfl rfl (by simp) ?_
  intro _ _ _
  refine AWp.then ⟨[⟨0, none, .lit (.string x0)⟩], []⟩ (AWp.reg Try.tyOk hΓ (keep := []) (dead := []) (by kernel_rfl) rfl (by simp)) ?_
  refine AWp.then ⟨[⟨2, none, .ptr 0 0⟩], [.blk [.lit (.string x0), .lit (.int .i64 0)]]⟩ (AWp.reg Try.tyOk hΓ (keep := [2]) (dead := [0]) (by kernel_rfl) rfl (by simp)) ?_
  refine AWp.ret ?_
  obtain rfl := some_inj hr
  refine fin_ret ?_
  simp

@[simp] noncomputable def gOctetRead.S : Sp
  | [.lit (.string x0)], M => some { av := .ptr M.length 0, M := some (M ++ [.blk [.lit (.string (((gOctetRead x0).getD dflt).fS)), .lit (.int .i64 (((gOctetRead x0).getD dflt).fE))]]), obl := (gOctetRead x0).isSome = true }
  | _, _ => none

set_option maxHeartbeats 1000000 in
theorem gOctetRead.ok : SpecOk Try.prog 65 gOctetRead.S := by
  intro l M out h
  unfold gOctetRead.S at h
  split at h
  · rename_i x0
    cases h
    refine callOk_of fun ho => ?_
    have hs := ho
    obtain ⟨r, hr⟩ := Option.isSome_iff_exists.1 hs
    simp only [hr, Option.getD_some]
    have q := call_frame (M := M) [] (gOctetRead.can x0 r hr) (by simp) rfl (by intro k i hk; simp at hk)
    exact callOk_conv q trivial (by simp) (by simp [frameOut, gOctetRead.out, into]) (by simp [frameOut, gOctetRead.out, into])
  · cases h

@[simp] def gOctetReaderLen.out (_x0 : OctetReader) (r : Int) : Out := { av := .lit (.int .i64 r), M := none }
set_option maxHeartbeats 4000000 in
set_option maxRecDepth 100000 in
theorem gOctetReaderLen.can (x0 : OctetReader) (r : Int) (hr : gOctetReaderLen x0 = some r) : CallOk Try.prog 76 [.ptr 0 0] [.blk x0.enc] (gOctetReaderLen.out x0 r) := by
  unfold gOctetReaderLen at hr
  have hΓ := gamL_nil (P := Try.prog)
  refine call_of_awp Try.tyOk Try.func76 rfl (by kernel_rfl) rfl rfl (by simp) ?_
  intro _ _ _
  refine AWp.then ⟨[⟨0, none, .ptr 0 0⟩], [.blk x0.enc]⟩ (AWp.reg Try.tyOk hΓ (keep := []) (dead := []) (by kernel_rfl) rfl (by simp)) ?_
  refine AWp.then ⟨[⟨2, none, .lit (.int .i64 (lenS x0.fS))⟩], [.blk x0.enc]⟩ (AWp.reg Try.tyOk hΓ (keep := [2]) (dead := [0]) (by kernel_rfl) rfl (by simp)) ?_
  refine AWp.ret ?_
  obtain rfl := some_inj hr
  refine fin_ret ?_
  simp

@[simp] noncomputable def gOctetReaderLen.S : Sp
  | [.ptr i0 0], M => match M[i0]? with
    | some (.blk c0) => some { av := .lit (.int .i64 ((gOctetReaderLen (OctetReader.dec c0)).getD dflt)), M := none, obl := c0 = OctetReader.enc (OctetReader.dec c0) ∧ (gOctetReaderLen (OctetReader.dec c0)).isSome = true }
    | _ => none
  | _, _ => none

set_option maxHeartbeats 1000000 in
theorem gOctetReaderLen.ok : SpecOk Try.prog 76 gOctetReaderLen.S := by
  intro l M out h
  unfold gOctetReaderLen.S at h
  split at h
  · rename_i i0
    split at h
    case h_2 => cases h
    rename_i c0 hM0
    cases h
    refine callOk_of fun ho => ?_
    obtain ⟨oc0, hs⟩ := ho
    generalize (OctetReader.dec c0) = y0 at *
    subst oc0
    obtain ⟨r, hr⟩ := Option.isSome_iff_exists.1 hs
    simp only [hr, Option.getD_some]
    have q := call_frame (M := M) [i0] (gOctetReaderLen.can y0 r hr) (by simp) rfl (by intro k i hk; (cases k with | zero => (simp at hk; subst hk; simp [hM0]) | succ k => (simp at hk)))
    exact callOk_conv q trivial (by simp [into]) (by simp [frameOut, gOctetReaderLen.out]) (by simp only [frameOut, gOctetReaderLen.out, Option.getD_some, Option.getD_none]; simp [hM0, set_same])
  · cases h

@[simp] def gOctetReaderErr.out (_x0 : OctetReader) (r : Int) : Out := { av := .lit (.int .i64 r), M := none }
set_option maxHeartbeats 4000000 in
set_option maxRecDepth 100000 in
theorem gOctetReaderErr.can (x0 : OctetReader) (r : Int) (hr : gOctetReaderErr x0 = some r) : CallOk Try.prog 68 [.ptr 0 0] [.blk x0.enc] (gOctetReaderErr.out x0 r) := by
  unfold gOctetReaderErr at hr
  have hΓ := gamL_nil (P := Try.prog)
  refine call_of_awp Try.tyOk Try.func68 rfl (by kernel_rfl) rfl rfl (by simp) ?_
  intro _ _ _
  refine AWp.then ⟨[⟨0, none, .ptr 0 0⟩], [.blk x0.enc]⟩ (AWp.reg Try.tyOk hΓ (keep := []) (dead := []) (by kernel_rfl) rfl (by simp)) ?_
  refine AWp.then ⟨[⟨2, none, .lit (.int .i64 x0.fE)⟩], [.blk x0.enc]⟩ (AWp.reg Try.tyOk hΓ (keep := [2]) (dead := [0]) (by kernel_rfl) rfl (by simp)) ?_
  refine AWp.ret ?_
  obtain rfl := some_inj hr
  refine fin_ret ?_
  simp

@[simp] noncomputable def gOctetReaderErr.S : Sp
  | [.ptr i0 0], M => match M[i0]? with
    | some (.blk c0) => some { av := .lit (.int .i64 ((gOctetReaderErr (OctetReader.dec c0)).getD dflt)), M := none, obl := c0 = OctetReader.enc (OctetReader.dec c0) ∧ (gOctetReaderErr (OctetReader.dec c0)).isSome = true }
    | _ => none
  | _, _ => none

set_option maxHeartbeats 1000000 in
theorem gOctetReaderErr.ok : SpecOk Try.prog 68 gOctetReaderErr.S := by
  intro l M out h
  unfold gOctetReaderErr.S at h
  split at h
  · rename_i i0
    split at h
    case h_2 => cases h
    rename_i c0 hM0
    cases h
    refine callOk_of fun ho => ?_
    obtain ⟨oc0, hs⟩ := ho
    generalize (OctetReader.dec c0) = y0 at *
    subst oc0
    obtain ⟨r, hr⟩ := Option.isSome_iff_exists.1 hs
    simp only [hr, Option.getD_some]
    have q := call_frame (M := M) [i0] (gOctetReaderErr.can y0 r hr) (by simp) rfl (by intro k i hk; (cases k with | zero => (simp at hk; subst hk; simp [hM0]) | succ k => (simp at hk)))
    exact callOk_conv q trivial (by simp [into]) (by simp [frameOut, gOctetReaderErr.out]) (by simp only [frameOut, gOctetReaderErr.out, Option.getD_some, Option.getD_none]; simp [hM0, set_same])
  · cases h

@[simp] def gOctetReaderFail.out (_x0 : OctetReader) (_x1 : Int) (r : OctetReader) : Out := { av := .tup [], M := some [.blk [.lit (.string r.fS), .lit (.int .i64 r.fE)]] }
set_option maxHeartbeats 4000000 in
set_option maxRecDepth 100000 in
theorem gOctetReaderFail.can (x0 : OctetReader) (x1 : Int) (r : OctetReader) (hr : gOctetReaderFail x0 x1 = some r) : CallOk Try.prog 78 [.ptr 0 0, .lit (.int .i64 x1)] [.blk x0.enc] (gOctetReaderFail.out x0 x1 r) := by
  unfold gOctetReaderFail at hr
  have hΓ := gamL_nil (P := Try.prog)
  refine call_of_awp Try.tyOk Try.func78 rfl (by kernel_rfl) rfl rfl (by simp) ?_
  intro _ _ _
  refine AWp.then ⟨[⟨12, none, .lit (.bool (pickB (eqI x0.fE 0) (neI x1 0) false))⟩, ⟨0, none, .ptr 0 0⟩, ⟨1, none, .lit (.int .i64 x1)⟩], [.blk x0.enc]⟩ (AWp.reg Try.tyOk hΓ (keep := [12]) (dead := []) (by kernel_rfl) rfl (by simp)) ?_
  refine AWp.cond (b := (pickB (eqI x0.fE 0) (neI x1 0) false)) (by simp) (fun h2 => ?_) (fun h2 => ?_)
  · have hr := cond_t h2 hr
    refine AWp.last ⟨[], [.blk [.lit (.string ⟨#[]⟩), .lit (.int .i64 x1)]]⟩ (AWp.reg Try.tyOk hΓ (keep := []) (dead := [12, 0, 1]) (by kernel_rfl) rfl (by simp [h2])) ?_
    obtain rfl := some_inj hr
    refine fin_norm ?_
    simp
  · have hr := cond_f h2 hr
    refine AWp.skip ?_
    obtain rfl := some_inj hr
    refine fin_norm ?_
    simp

@[simp] noncomputable def gOctetReaderFail.S : Sp
  | [.ptr i0 0, .lit (.int .i64 x1)], M => match M[i0]? with
    | some (.blk c0) => some { av := .tup [], M := some (M.set i0 (.blk [.lit (.string (((gOctetReaderFail (OctetReader.dec c0) x1).getD dflt).fS)), .lit (.int .i64 (((gOctetReaderFail (OctetReader.dec c0) x1).getD dflt).fE))])), obl := c0 = OctetReader.enc (OctetReader.dec c0) ∧ (gOctetReaderFail (OctetReader.dec c0) x1).isSome = true }
    | _ => none
  | _, _ => none

set_option maxHeartbeats 1000000 in
theorem gOctetReaderFail.ok : SpecOk Try.prog 78 gOctetReaderFail.S := by
  intro l M out h
  unfold gOctetReaderFail.S at h
  split at h
  · rename_i i0 x1
    split at h
    case h_2 => cases h
    rename_i c0 hM0
    cases h
    refine callOk_of fun ho => ?_
    obtain ⟨oc0, hs⟩ := ho
    generalize (OctetReader.dec c0) = y0 at *
    subst oc0
    obtain ⟨r, hr⟩ := Option.isSome_iff_exists.1 hs
    simp only [hr, Option.getD_some]
    have q := call_frame (M := M) [i0] (gOctetReaderFail.can y0 x1 r hr) (by simp) rfl (by intro k i hk; (cases k with | zero => (simp at hk; subst hk; simp [hM0]) | succ k => (simp at hk)))
    exact callOk_conv q trivial (by simp [into]) (by simp [frameOut, gOctetReaderFail.out]) (by simp [frameOut, gOctetReaderFail.out])
  · cases h

@[simp] def gOctetReaderBytes.out (_x0 : OctetReader) (_x1 : Int) (r : ByteArray × OctetReader) : Out := { av := .lit (.string r.1), M := some [.blk [.lit (.string r.2.fS), .lit (.int .i64 r.2.fE)]] }
set_option maxHeartbeats 4000000 in
set_option maxRecDepth 100000 in
theorem gOctetReaderBytes.can (x0 : OctetReader) (x1 : Int) (r : ByteArray × OctetReader) (hr : gOctetReaderBytes x0 x1 = some r) : CallOk Try.prog 75 [.ptr 0 0, .lit (.int .i64 x1)] [.blk x0.enc] (gOctetReaderBytes.out x0 x1 r) := by
  unfold gOctetReaderBytes at hr
  have hΓ := (gamL_cons gOctetReaderFail.ok (gamL_nil) : GamOk Try.prog _)
  refine call_of_awp Try.tyOk Try.func75 rfl (by kernel_rfl) rfl rfl (by simp) ?_
  intro _ _ _
  refine AWp.then ⟨[⟨0, none, .ptr 0 0⟩, ⟨1, none, .lit (.int .i64 x1)⟩], [.blk x0.enc]⟩ (AWp.reg Try.tyOk hΓ (keep := []) (dead := []) (by kernel_rfl) rfl (by simp)) ?_
  refine AWp.seq ?_
  refine AWp.block ?_
  refine AWp.then ⟨[⟨6, none, .lit (.bool (neI x0.fE 0))⟩, ⟨0, none, .ptr 0 0⟩, ⟨1, none, .lit (.int .i64 x1)⟩], [.blk x0.enc]⟩ (AWp.reg Try.tyOk hΓ (keep := [6]) (dead := []) (by kernel_rfl) rfl (by simp)) ?_
  refine AWp.cond (b := (neI x0.fE 0)) (by simp) (fun h8 => ?_) (fun h8 => ?_)
  · have hr := cond_t h8 hr
    refine AWp.then ⟨[⟨4, none, .lit (.string ⟨#[]⟩)⟩], [.blk x0.enc]⟩ (AWp.reg Try.tyOk hΓ (keep := [4]) (dead := [6, 0, 1]) (by kernel_rfl) rfl (by simp [h8])) ?_
    refine AWp.ret ?_
    obtain rfl := some_inj hr
    refine fin_ret ?_
    simp
  · have hr := cond_f h8 hr
    refine AWp.then ⟨[⟨12, none, .lit (.bool (ltI x1 0))⟩, ⟨0, none, .ptr 0 0⟩, ⟨1, none, .lit (.int .i64 x1)⟩], [.blk x0.enc]⟩ (AWp.reg Try.tyOk hΓ (keep := [12]) (dead := [6]) (by kernel_rfl) rfl (by simp [h8])) ?_
    refine AWp.cond (b := (ltI x1 0)) (by simp) (fun h9 => ?_) (fun h9 => ?_)
    · have hr := cond_t h9 hr
      obtain ⟨r1, h10, hr⟩ := bind_some' hr
      refine AWp.then ⟨[], [.blk r1.enc]⟩ (AWp.reg Try.tyOk hΓ (keep := []) (dead := [12, 0, 1]) (by kernel_rfl) rfl (by simp [h9, h10])) ?_
      refine AWp.then ⟨[⟨4, none, .lit (.string ⟨#[]⟩)⟩], [.blk r1.enc]⟩ (AWp.reg Try.tyOk hΓ (keep := [4]) (dead := []) (by kernel_rfl) rfl (by simp)) ?_
      refine AWp.ret ?_
      obtain rfl := some_inj hr
      refine fin_ret ?_
      simp
    · have hr := cond_f h9 hr
      refine AWp.then ⟨[⟨17, none, .lit (.bool (ltI (lenS x0.fS) x1))⟩, ⟨0, none, .ptr 0 0⟩, ⟨1, none, .lit (.int .i64 x1)⟩], [.blk x0.enc]⟩ (AWp.reg Try.tyOk hΓ (keep := [17]) (dead := [12]) (by kernel_rfl) rfl (by simp [h9])) ?_
      refine AWp.cond (b := (ltI (lenS x0.fS) x1)) (by simp) (fun h11 => ?_) (fun h11 => ?_)
      · have hr := cond_t h11 hr
        obtain ⟨r2, h12, hr⟩ := bind_some' hr
        refine AWp.then ⟨[], [.blk r2.enc]⟩ (AWp.reg Try.tyOk hΓ (keep := []) (dead := [17, 0, 1]) (by kernel_rfl) rfl (by simp [h11, h12])) ?_
        refine AWp.then ⟨[⟨4, none, .lit (.string ⟨#[]⟩)⟩], [.blk r2.enc]⟩ (AWp.reg Try.tyOk hΓ (keep := [4]) (dead := []) (by kernel_rfl) rfl (by simp)) ?_
        refine AWp.ret ?_
        obtain rfl := some_inj hr
        refine fin_ret ?_
        simp
      · have hr := cond_f h11 hr
        refine AWp.skip ?_
        obtain ⟨h13, hr⟩ := need_some hr
        refine AWp.then ⟨[⟨5, none, .lit (.string (cutS x0.fS 0 x1))⟩, ⟨0, none, .ptr 0 0⟩, ⟨1, none, .lit (.int .i64 x1)⟩], [.blk x0.enc]⟩ (AWp.reg Try.tyOk hΓ (keep := [5]) (dead := [17]) (by kernel_rfl) rfl (by simp [h11, h13])) ?_
        obtain ⟨h14, hr⟩ := need_some hr
        refine AWp.then ⟨[⟨5, none, .lit (.string (cutS x0.fS 0 x1))⟩], [.blk [.lit (.string (cutS x0.fS x1 (lenS x0.fS))), .lit (.int .i64 x0.fE)]]⟩ (AWp.reg Try.tyOk hΓ (keep := []) (dead := [0, 1]) (by kernel_rfl) rfl (by simp [h14])) ?_
        refine AWp.then ⟨[⟨4, none, .lit (.string (cutS x0.fS 0 x1))⟩], [.blk [.lit (.string (cutS x0.fS x1 (lenS x0.fS))), .lit (.int .i64 x0.fE)]]⟩ (AWp.reg Try.tyOk hΓ (keep := [4]) (dead := [5]) (by kernel_rfl) rfl (by simp)) ?_
        refine AWp.ret ?_
        obtain rfl := some_inj hr
        refine fin_ret ?_
        simp

@[simp] noncomputable def gOctetReaderBytes.S : Sp
  | [.ptr i0 0, .lit (.int .i64 x1)], M => match M[i0]? with
    | some (.blk c0) => some { av := .lit (.string (((gOctetReaderBytes (OctetReader.dec c0) x1).getD dflt).1)), M := some (M.set i0 (.blk [.lit (.string (((gOctetReaderBytes (OctetReader.dec c0) x1).getD dflt).2.fS)), .lit (.int .i64 (((gOctetReaderBytes (OctetReader.dec c0) x1).getD dflt).2.fE))])), obl := c0 = OctetReader.enc (OctetReader.dec c0) ∧ (gOctetReaderBytes (OctetReader.dec c0) x1).isSome = true }
    | _ => none
  | _, _ => none

set_option maxHeartbeats 1000000 in
theorem gOctetReaderBytes.ok : SpecOk Try.prog 75 gOctetReaderBytes.S := by
  intro l M out h
  unfold gOctetReaderBytes.S at h
  split at h
  · rename_i i0 x1
    split at h
    case h_2 => cases h
    rename_i c0 hM0
    cases h
    refine callOk_of fun ho => ?_
    obtain ⟨oc0, hs⟩ := ho
    generalize (OctetReader.dec c0) = y0 at *
    subst oc0
    obtain ⟨r, hr⟩ := Option.isSome_iff_exists.1 hs
    simp only [hr, Option.getD_some]
    have q := call_frame (M := M) [i0] (gOctetReaderBytes.can y0 x1 r hr) (by simp) rfl (by intro k i hk; (cases k with | zero => (simp at hk; subst hk; simp [hM0]) | succ k => (simp at hk)))
    exact callOk_conv q trivial (by simp [into]) (by simp [frameOut, gOctetReaderBytes.out]) (by simp [frameOut, gOctetReaderBytes.out])
  · cases h

@[simp] def gOctetReaderNum.out (_x0 : OctetReader) (_x1 : Int) (r : Int × OctetReader) : Out := { av := .lit (.int .u64 r.1), M := some [.blk [.lit (.string r.2.fS), .lit (.int .i64 r.2.fE)]] }
def gOctetReaderNum.fin (x0 : OctetReader) (x1 : Int) (r : Int × OctetReader) (σ : St) : Prop := finK (gOctetReaderNum.out x0 x1 r) [.blk x0.enc] σ.M (resA Try.ty σ.A σ.M Try.f74.results.toList)
set_option maxHeartbeats 4000000 in
set_option maxRecDepth 100000 in
theorem gOctetReaderNum.can (x0 : OctetReader) (x1 : Int) (r : Int × OctetReader) (hr : gOctetReaderNum x0 x1 = some r) : CallOk Try.prog 74 [.ptr 0 0, .lit (.int .i64 x1)] [.blk x0.enc] (gOctetReaderNum.out x0 x1 r) := by
  unfold gOctetReaderNum at hr
  have hΓ := (gamL_cons gOctetReaderBytes.ok (gamL_nil) : GamOk Try.prog _)
  refine call_of_awp Try.tyOk Try.func74 rfl (by kernel_rfl) rfl rfl (by simp) ?_
  intro _ _ _
  refine AWp.then ⟨[⟨0, none, .ptr 0 0⟩, ⟨1, none, .lit (.int .i64 x1)⟩], [.blk x0.enc]⟩ (AWp.reg Try.tyOk hΓ (keep := []) (dead := []) (by kernel_rfl) rfl (by simp)) ?_
  refine AWp.then ⟨[⟨5, none, .lit (.int .u64 0)⟩, ⟨0, none, .ptr 0 0⟩, ⟨1, none, .lit (.int .i64 x1)⟩], [.blk x0.enc]⟩ (AWp.reg Try.tyOk hΓ (keep := [5]) (dead := []) (by kernel_rfl) rfl (by simp)) ?_
  refine AWp.seq ?_
  obtain ⟨r1, h5, hr⟩ := bind_some' hr
  refine AWp.then ⟨[⟨13, none, .sl ((numsOf r1.1).map (eNum .u8)) .no⟩, ⟨14, none, .lit (.int .i64 (lenL (numsOf r1.1)))⟩, ⟨15, none, .lit (.int .i64 0)⟩, ⟨5, none, .lit (.int .u64 0)⟩], [.blk r1.2.enc]⟩ (AWp.reg Try.tyOk hΓ (keep := [13, 14, 15]) (dead := [0, 1]) (by kernel_rfl) rfl (by simp [h5])) ?_
  refine AWp.loopE (fun (s1 : Int × Int) (γ1 : Unit) => ⟨[⟨13, none, .sl ((numsOf r1.1).map (eNum .u8)) .no⟩, ⟨14, none, .lit (.int .i64 (lenL (numsOf r1.1)))⟩, ⟨15, none, .lit (.int .i64 s1.1)⟩, ⟨5, none, .lit (.int .u64 s1.2)⟩], [.blk r1.2.enc]⟩) (fun (v1 : Int) (γ1a : Unit) => ⟨[⟨5, none, .lit (.int .u64 v1)⟩], [.blk r1.2.enc]⟩) (gOctetReaderNum.fin x0 x1) hr () 1 (by simp) (fun s1 f γ1 hr => ?_) (fun v1 γ1a σ1 m1 hr hc => ?_) (fun _ h => h)
  · unfold gOctetReaderNum.loop1 at hr
    refine AWp.then ⟨[⟨16, none, .lit (.bool (ltI s1.1 (lenL (numsOf r1.1))))⟩, ⟨13, none, .sl ((numsOf r1.1).map (eNum .u8)) .no⟩, ⟨14, none, .lit (.int .i64 (lenL (numsOf r1.1)))⟩, ⟨15, none, .lit (.int .i64 s1.1)⟩, ⟨5, none, .lit (.int .u64 s1.2)⟩], [.blk r1.2.enc]⟩ (AWp.reg Try.tyOk hΓ (keep := [16]) (dead := []) (by kernel_rfl) rfl (by simp)) ?_
    refine AWp.seq ?_
    refine AWp.cond (b := (ltI s1.1 (lenL (numsOf r1.1)))) (by simp) (fun h6 => ?_) (fun h6 => ?_)
    · have hr := cond_t h6 hr
      refine AWp.skip ?_
      refine AWp.seq ?_
      refine AWp.block ?_
      obtain ⟨h7, hr⟩ := need_some hr
      refine AWp.then ⟨[⟨7, none, .lit (.int .u8 (nthI (numsOf r1.1) s1.1))⟩, ⟨13, none, .sl ((numsOf r1.1).map (eNum .u8)) .no⟩, ⟨14, none, .lit (.int .i64 (lenL (numsOf r1.1)))⟩, ⟨15, none, .lit (.int .i64 s1.1)⟩, ⟨5, none, .lit (.int .u64 s1.2)⟩], [.blk r1.2.enc]⟩ (AWp.reg Try.tyOk hΓ (keep := [7]) (dead := [16]) (by kernel_rfl) rfl (by simp [h6, h7])) ?_
      obtain ⟨h8, hr⟩ := need_some hr
      refine AWp.last ⟨[⟨5, none, .lit (.int .u64 (bitsOp .or .u64 (shlI .u64 s1.2 8) (cvtI .u64 (nthI (numsOf r1.1) s1.1))))⟩, ⟨13, none, .sl ((numsOf r1.1).map (eNum .u8)) .no⟩, ⟨14, none, .lit (.int .i64 (lenL (numsOf r1.1)))⟩, ⟨15, none, .lit (.int .i64 s1.1)⟩], [.blk r1.2.enc]⟩ (AWp.reg Try.tyOk hΓ (keep := [5]) (dead := [7]) (by kernel_rfl) rfl (by simp [h8])) ?_
      refine AWp.last ⟨[⟨15, none, .lit (.int .i64 (addI .i64 s1.1 1))⟩, ⟨5, none, .lit (.int .u64 (bitsOp .or .u64 (shlI .u64 s1.2 8) (cvtI .u64 (nthI (numsOf r1.1) s1.1))))⟩, ⟨13, none, .sl ((numsOf r1.1).map (eNum .u8)) .no⟩, ⟨14, none, .lit (.int .i64 (lenL (numsOf r1.1)))⟩], [.blk r1.2.enc]⟩ (AWp.reg Try.tyOk hΓ (keep := [15]) (dead := []) (by kernel_rfl) rfl (by simp)) ?_
      obtain rfl := some_inj hr
      exact round_go () 1 (by first | (simp; done) | simp [h5, h6, h7, h8])
    · have hr := cond_f h6 hr
      refine AWp.exit ?_
      obtain rfl := some_inj hr
      exact round_out () 1 (by first | (simp; done) | simp [h5, h6])
  · refine AWp.conv hc ?_
    refine AWp.then ⟨[⟨4, none, .lit (.int .u64 v1)⟩], [.blk r1.2.enc]⟩ (AWp.reg Try.tyOk hΓ (keep := [4]) (dead := [5]) (by kernel_rfl) rfl (by simp)) ?_
    refine AWp.ret ?_
    obtain rfl := some_inj hr
    refine fin_ret ?_
    simp

@[simp] noncomputable def gOctetReaderNum.S : Sp
  | [.ptr i0 0, .lit (.int .i64 x1)], M => match M[i0]? with
    | some (.blk c0) => some { av := .lit (.int .u64 (((gOctetReaderNum (OctetReader.dec c0) x1).getD dflt).1)), M := some (M.set i0 (.blk [.lit (.string (((gOctetReaderNum (OctetReader.dec c0) x1).getD dflt).2.fS)), .lit (.int .i64 (((gOctetReaderNum (OctetReader.dec c0) x1).getD dflt).2.fE))])), obl := c0 = OctetReader.enc (OctetReader.dec c0) ∧ (gOctetReaderNum (OctetReader.dec c0) x1).isSome = true }
    | _ => none
  | _, _ => none

set_option maxHeartbeats 1000000 in
theorem gOctetReaderNum.ok : SpecOk Try.prog 74 gOctetReaderNum.S := by
  intro l M out h
  unfold gOctetReaderNum.S at h
  split at h
  · rename_i i0 x1
    split at h
    case h_2 => cases h
    rename_i c0 hM0
    cases h
    refine callOk_of fun ho => ?_
    obtain ⟨oc0, hs⟩ := ho
    generalize (OctetReader.dec c0) = y0 at *
    subst oc0
    obtain ⟨r, hr⟩ := Option.isSome_iff_exists.1 hs
    simp only [hr, Option.getD_some]
    have q := call_frame (M := M) [i0] (gOctetReaderNum.can y0 x1 r hr) (by simp) rfl (by intro k i hk; (cases k with | zero => (simp at hk; subst hk; simp [hM0]) | succ k => (simp at hk)))
    exact callOk_conv q trivial (by simp [into]) (by simp [frameOut, gOctetReaderNum.out]) (by simp [frameOut, gOctetReaderNum.out])
  · cases h

@[simp] def gOctetReaderU8.out (_x0 : OctetReader) (r : Int × OctetReader) : Out := { av := .lit (.int .u8 r.1), M := some [.blk [.lit (.string r.2.fS), .lit (.int .i64 r.2.fE)]] }
set_option maxHeartbeats 4000000 in
set_option maxRecDepth 100000 in
theorem gOctetReaderU8.can (x0 : OctetReader) (r : Int × OctetReader) (hr : gOctetReaderU8 x0 = some r) : CallOk Try.prog 66 [.ptr 0 0] [.blk x0.enc] (gOctetReaderU8.out x0 r) := by
  unfold gOctetReaderU8 at hr
  have hΓ := (gamL_cons gOctetReaderNum.ok (gamL_nil) : GamOk Try.prog _)
  refine call_of_awp Try.tyOk Try.func66 rfl (by kernel_rfl) rfl rfl (by simp) ?_
  intro _ _ _
  refine AWp.then ⟨[⟨0, none, .ptr 0 0⟩], [.blk x0.enc]⟩ (AWp.reg Try.tyOk hΓ (keep := []) (dead := []) (by kernel_rfl) rfl (by simp)) ?_
  obtain ⟨r1, h2, hr⟩ := bind_some' hr
  refine AWp.then ⟨[⟨2, none, .lit (.int .u8 (cvtI .u8 r1.1))⟩], [.blk r1.2.enc]⟩ (AWp.reg Try.tyOk hΓ (keep := [2]) (dead := [0]) (by kernel_rfl) rfl (by simp [h2])) ?_
  refine AWp.ret ?_
  obtain rfl := some_inj hr
  refine fin_ret ?_
  simp

@[simp] noncomputable def gOctetReaderU8.S : Sp
  | [.ptr i0 0], M => match M[i0]? with
    | some (.blk c0) => some { av := .lit (.int .u8 (((gOctetReaderU8 (OctetReader.dec c0)).getD dflt).1)), M := some (M.set i0 (.blk [.lit (.string (((gOctetReaderU8 (OctetReader.dec c0)).getD dflt).2.fS)), .lit (.int .i64 (((gOctetReaderU8 (OctetReader.dec c0)).getD dflt).2.fE))])), obl := c0 = OctetReader.enc (OctetReader.dec c0) ∧ (gOctetReaderU8 (OctetReader.dec c0)).isSome = true }
    | _ => none
  | _, _ => none

set_option maxHeartbeats 1000000 in
theorem gOctetReaderU8.ok : SpecOk Try.prog 66 gOctetReaderU8.S := by
  intro l M out h
  unfold gOctetReaderU8.S at h
  split at h
  · rename_i i0
    split at h
    case h_2 => cases h
    rename_i c0 hM0
    cases h
    refine callOk_of fun ho => ?_
    obtain ⟨oc0, hs⟩ := ho
    generalize (OctetReader.dec c0) = y0 at *
    subst oc0
    obtain ⟨r, hr⟩ := Option.isSome_iff_exists.1 hs
    simp only [hr, Option.getD_some]
    have q := call_frame (M := M) [i0] (gOctetReaderU8.can y0 r hr) (by simp) rfl (by intro k i hk; (cases k with | zero => (simp at hk; subst hk; simp [hM0]) | succ k => (simp at hk)))
    exact callOk_conv q trivial (by simp [into]) (by simp [frameOut, gOctetReaderU8.out]) (by simp [frameOut, gOctetReaderU8.out])
  · cases h

@[simp] def gOctetReaderRest.out (_x0 : OctetReader) (r : ByteArray × OctetReader) : Out := { av := .lit (.string r.1), M := some [.blk [.lit (.string r.2.fS), .lit (.int .i64 r.2.fE)]] }
set_option maxHeartbeats 4000000 in
set_option maxRecDepth 100000 in
theorem gOctetReaderRest.can (x0 : OctetReader) (r : ByteArray × OctetReader) (hr : gOctetReaderRest x0 = some r) : CallOk Try.prog 69 [.ptr 0 0] [.blk x0.enc] (gOctetReaderRest.out x0 r) := by
  unfold gOctetReaderRest at hr
  have hΓ := (gamL_cons gOctetReaderBytes.ok (gamL_cons gOctetReaderLen.ok (gamL_nil)) : GamOk Try.prog _)
  refine call_of_awp Try.tyOk Try.func69 rfl (by kernel_rfl) rfl rfl (by simp) ?_
  intro _ _ _
  refine AWp.then ⟨[⟨0, none, .ptr 0 0⟩], [.blk x0.enc]⟩ (AWp.reg Try.tyOk hΓ (keep := []) (dead := []) (by kernel_rfl) rfl (by simp)) ?_
  obtain ⟨r1, h3, hr⟩ := bind_some' hr
  obtain ⟨r2, h4, hr⟩ := bind_some' hr
  refine AWp.then ⟨[⟨2, none, .lit (.string r2.1)⟩], [.blk r2.2.enc]⟩ (AWp.reg Try.tyOk hΓ (keep := [2]) (dead := [0]) (by kernel_rfl) rfl (by simp [h3, h4])) ?_
  refine AWp.ret ?_
  obtain rfl := some_inj hr
  refine fin_ret ?_
  simp

@[simp] noncomputable def gOctetReaderRest.S : Sp
  | [.ptr i0 0], M => match M[i0]? with
    | some (.blk c0) => some { av := .lit (.string (((gOctetReaderRest (OctetReader.dec c0)).getD dflt).1)), M := some (M.set i0 (.blk [.lit (.string (((gOctetReaderRest (OctetReader.dec c0)).getD dflt).2.fS)), .lit (.int .i64 (((gOctetReaderRest (OctetReader.dec c0)).getD dflt).2.fE))])), obl := c0 = OctetReader.enc (OctetReader.dec c0) ∧ (gOctetReaderRest (OctetReader.dec c0)).isSome = true }
    | _ => none
  | _, _ => none

set_option maxHeartbeats 1000000 in
theorem gOctetReaderRest.ok : SpecOk Try.prog 69 gOctetReaderRest.S := by
  intro l M out h
  unfold gOctetReaderRest.S at h
  split at h
  · rename_i i0
    split at h
    case h_2 => cases h
    rename_i c0 hM0
    cases h
    refine callOk_of fun ho => ?_
    obtain ⟨oc0, hs⟩ := ho
    generalize (OctetReader.dec c0) = y0 at *
    subst oc0
    obtain ⟨r, hr⟩ := Option.isSome_iff_exists.1 hs
    simp only [hr, Option.getD_some]
    have q := call_frame (M := M) [i0] (gOctetReaderRest.can y0 r hr) (by simp) rfl (by intro k i hk; (cases k with | zero => (simp at hk; subst hk; simp [hM0]) | succ k => (simp at hk)))
    exact callOk_conv q trivial (by simp [into]) (by simp [frameOut, gOctetReaderRest.out]) (by simp [frameOut, gOctetReaderRest.out])
  · cases h

@[simp] def gVp8Plain.out  (r : Antiphonref04Desc) : Out := { av := .agg [.lit (.bool r.fNonRef), .lit (.bool r.fStart), .lit (.int .i64 r.fPart), .lit (.int .i64 r.fPicture), .lit (.bool r.fWide), .lit (.int .i64 r.fLevel), .lit (.int .i64 r.fLayer), .lit (.bool r.fSync), .lit (.int .i64 r.fKey)], M := none }
set_option maxHeartbeats 4000000 in
set_option maxRecDepth 100000 in
theorem gVp8Plain.can  (r : Antiphonref04Desc) (hr : gVp8Plain = some r) : CallOk Try.prog 24 [] [] (gVp8Plain.out  r) := by
  unfold gVp8Plain at hr
  have hΓ := gamL_nil (P := Try.prog)
  refine call_of_awp Try.tyOk Try.func24 rfl (by kernel_rfl) rfl rfl (by simp) ?_
  intro _ _ _
  refine AWp.then ⟨[⟨0, none, .ptr 0 0⟩], [.blk [.lit (.bool false), .lit (.bool false), .lit (.int .i64 0), .lit (.int .i64 0), .lit (.bool false), .lit (.int .i64 0), .lit (.int .i64 0), .lit (.bool false), .lit (.int .i64 0)]]⟩ (AWp.reg Try.tyOk hΓ (keep := [0]) (dead := []) (by kernel_rfl) rfl (by simp)) ?_
  refine AWp.then ⟨[⟨0, none, .ptr 0 0⟩], [.blk [.lit (.bool false), .lit (.bool false), .lit (.int .i64 0), .lit (.int .i64 (-1)), .lit (.bool false), .lit (.int .i64 (-1)), .lit (.int .i64 (-1)), .lit (.bool false), .lit (.int .i64 (-1))]]⟩ (AWp.reg Try.tyOk hΓ (keep := []) (dead := []) (by kernel_rfl) rfl (by simp)) ?_
  refine AWp.ret ?_
  obtain rfl := some_inj hr
  refine fin_ret ?_
  simp

@[simp] noncomputable def gVp8Plain.S : Sp
  | [], _ => some { av := .agg [.lit (.bool ((gVp8Plain.getD dflt).fNonRef)), .lit (.bool ((gVp8Plain.getD dflt).fStart)), .lit (.int .i64 ((gVp8Plain.getD dflt).fPart)), .lit (.int .i64 ((gVp8Plain.getD dflt).fPicture)), .lit (.bool ((gVp8Plain.getD dflt).fWide)), .lit (.int .i64 ((gVp8Plain.getD dflt).fLevel)), .lit (.int .i64 ((gVp8Plain.getD dflt).fLayer)), .lit (.bool ((gVp8Plain.getD dflt).fSync)), .lit (.int .i64 ((gVp8Plain.getD dflt).fKey))], M := none, obl := gVp8Plain.isSome = true }
  | _, _ => none

set_option maxHeartbeats 1000000 in
theorem gVp8Plain.ok : SpecOk Try.prog 24 gVp8Plain.S := by
  intro l M out h
  unfold gVp8Plain.S at h
  split at h
  · cases h
    refine callOk_of fun ho => ?_
    have hs := ho
    obtain ⟨r, hr⟩ := Option.isSome_iff_exists.1 hs
    simp only [hr, Option.getD_some]
    have q := call_frame (M := M) [] (gVp8Plain.can r hr) (by simp) rfl (by intro k i hk; simp at hk)
    exact callOk_conv q trivial (by simp) (by simp [frameOut, gVp8Plain.out]) (by simp [frameOut, gVp8Plain.out])
  · cases h

@[simp] def gVp8Bit.out (_x0 : Bool) (_x1 : Int) (r : Int) : Out := { av := .lit (.int .u8 r), M := none }
set_option maxHeartbeats 4000000 in
set_option maxRecDepth 100000 in
theorem gVp8Bit.can (x0 : Bool) (x1 : Int) (r : Int) (hr : gVp8Bit x0 x1 = some r) : CallOk Try.prog 35 [.lit (.bool x0), .lit (.int .u8 x1)] [] (gVp8Bit.out x0 x1 r) := by
  unfold gVp8Bit at hr
  have hΓ := gamL_nil (P := Try.prog)
  refine call_of_awp Try.tyOk Try.func35 rfl (by kernel_rfl) rfl rfl (by simp) ?_
  intro _ _ _
  refine AWp.then ⟨[⟨0, none, .lit (.bool x0)⟩, ⟨1, none, .lit (.int .u8 x1)⟩], []⟩ (AWp.reg Try.tyOk hΓ (keep := []) (dead := []) (by kernel_rfl) rfl (by simp)) ?_
  refine AWp.seq ?_
  refine AWp.then ⟨[⟨5, none, .lit (.bool x0)⟩, ⟨1, none, .lit (.int .u8 x1)⟩], []⟩ (AWp.reg Try.tyOk hΓ (keep := [5]) (dead := [0]) (by kernel_rfl) rfl (by simp)) ?_
  refine AWp.cond (b := x0) (by simp) (fun h2 => ?_) (fun h2 => ?_)
  · have hr := cond_t h2 hr
    refine AWp.then ⟨[⟨4, none, .lit (.int .u8 x1)⟩], []⟩ (AWp.reg Try.tyOk hΓ (keep := [4]) (dead := [5, 1]) (by kernel_rfl) rfl (by simp [h2])) ?_
    refine AWp.ret ?_
    obtain rfl := some_inj hr
    refine fin_ret ?_
    simp
  · have hr := cond_f h2 hr
    refine AWp.skip ?_
    refine AWp.then ⟨[⟨4, none, .lit (.int .u8 0)⟩], []⟩ (AWp.reg Try.tyOk hΓ (keep := [4]) (dead := [5, 1]) (by kernel_rfl) rfl (by simp [h2])) ?_
    refine AWp.ret ?_
    obtain rfl := some_inj hr
    refine fin_ret ?_
    simp

@[simp] noncomputable def gVp8Bit.S : Sp
  | [.lit (.bool x0), .lit (.int .u8 x1)], _ => some { av := .lit (.int .u8 ((gVp8Bit x0 x1).getD dflt)), M := none, obl := (gVp8Bit x0 x1).isSome = true }
  | _, _ => none

set_option maxHeartbeats 1000000 in
theorem gVp8Bit.ok : SpecOk Try.prog 35 gVp8Bit.S := by
  intro l M out h
  unfold gVp8Bit.S at h
  split at h
  · rename_i x0 x1
    cases h
    refine callOk_of fun ho => ?_
    have hs := ho
    obtain ⟨r, hr⟩ := Option.isSome_iff_exists.1 hs
    simp only [hr, Option.getD_some]
    have q := call_frame (M := M) [] (gVp8Bit.can x0 x1 r hr) (by simp) rfl (by intro k i hk; simp at hk)
    exact callOk_conv q trivial (by simp) (by simp [frameOut, gVp8Bit.out]) (by simp [frameOut, gVp8Bit.out])
  · cases h

@[simp] def gVp8DescMore.out (_x0 : Antiphonref04Desc) (r : Bool) : Out := { av := .lit (.bool r), M := none }
set_option maxHeartbeats 4000000 in
set_option maxRecDepth 100000 in
theorem gVp8DescMore.can (x0 : Antiphonref04Desc) (r : Bool) (hr : gVp8DescMore x0 = some r) : CallOk Try.prog 36 [.agg [.lit (.bool x0.fNonRef), .lit (.bool x0.fStart), .lit (.int .i64 x0.fPart), .lit (.int .i64 x0.fPicture), .lit (.bool x0.fWide), .lit (.int .i64 x0.fLevel), .lit (.int .i64 x0.fLayer), .lit (.bool x0.fSync), .lit (.int .i64 x0.fKey)]] [] (gVp8DescMore.out x0 r) := by
  unfold gVp8DescMore at hr
  have hΓ := gamL_nil (P := Try.prog)
  refine call_of_awp Try.tyOk Try.func36 rfl (by kernel_rfl) rfl rfl (by simp) ?_
  intro _ _ _
  refine AWp.then ⟨[⟨1, none, .ptr 0 0⟩], [.blk x0.enc]⟩ (AWp.reg Try.tyOk hΓ (keep := [1]) (dead := [0]) (by kernel_rfl) rfl (by simp)) ?_
  refine AWp.then ⟨[⟨2, none, .lit (.bool (pickB (pickB (pickB (leqI 0 x0.fPicture) true (leqI 0 x0.fLevel)) true (leqI 0 x0.fLayer)) true (leqI 0 x0.fKey)))⟩], [.blk x0.enc]⟩ (AWp.reg Try.tyOk hΓ (keep := [2]) (dead := [1]) (by kernel_rfl) rfl (by simp)) ?_
  refine AWp.ret ?_
  obtain rfl := some_inj hr
  refine fin_ret ?_
  simp

@[simp] noncomputable def gVp8DescMore.S : Sp
  | [.agg e0], _ => some { av := .lit (.bool ((gVp8DescMore (Antiphonref04Desc.dec e0)).getD dflt)), M := none, obl := WeakL e0 (Antiphonref04Desc.enc (Antiphonref04Desc.dec e0)) ∧ (gVp8DescMore (Antiphonref04Desc.dec e0)).isSome = true }
  | _, _ => none

set_option maxHeartbeats 1000000 in
theorem gVp8DescMore.ok : SpecOk Try.prog 36 gVp8DescMore.S := by
  intro l M out h
  unfold gVp8DescMore.S at h
  split at h
  · rename_i e0
    cases h
    refine callOk_of fun ho => ?_
    obtain ⟨ox0, hs⟩ := ho
    generalize (Antiphonref04Desc.dec e0) = x0 at *
    obtain ⟨r, hr⟩ := Option.isSome_iff_exists.1 hs
    simp only [hr, Option.getD_some]
    have q := call_frame (M := M) [] (gVp8DescMore.can x0 r hr) (by simp) rfl (by intro k i hk; simp at hk)
    exact callOk_conv q trivial (by simp; exact ox0) (by simp [frameOut, gVp8DescMore.out]) (by simp [frameOut, gVp8DescMore.out])
  · cases h

@[simp] def gVp8DescText.out (_x0 : Antiphonref04Desc) (r : ByteArray) : Out := { av := .lit (.string r), M := none }
def gVp8DescText.fin (x0 : Antiphonref04Desc) (r : ByteArray) (σ : St) : Prop := finK (gVp8DescText.out x0 r) [] σ.M (resA Try.ty σ.A σ.M Try.f25.results.toList)
set_option maxHeartbeats 4000000 in
set_option maxRecDepth 100000 in
theorem gVp8DescText.can (x0 : Antiphonref04Desc) (r : ByteArray) (hr : gVp8DescText x0 = some r) : CallOk Try.prog 25 [.agg [.lit (.bool x0.fNonRef), .lit (.bool x0.fStart), .lit (.int .i64 x0.fPart), .lit (.int .i64 x0.fPicture), .lit (.bool x0.fWide), .lit (.int .i64 x0.fLevel), .lit (.int .i64 x0.fLayer), .lit (.bool x0.fSync), .lit (.int .i64 x0.fKey)]] [] (gVp8DescText.out x0 r) := by
  unfold gVp8DescText at hr
  have hΓ := (gamL_cons gOctetWriter.Text.ok (gamL_cons gOctetWriterU16.ok (gamL_cons gOctetWriter.U8.ok (gamL_cons gVp8DescMore.ok (gamL_cons gVp8Bit.ok (gamL_nil))))) : GamOk Try.prog _)
  refine call_of_awp Try.tyOk Try.func25 rfl (by kernel_rfl) rfl rfl (by simp) ?_
  intro _ _ _
  refine AWp.then ⟨[⟨1, none, .ptr 0 0⟩], [.blk x0.enc]⟩ (AWp.reg Try.tyOk hΓ (keep := [1]) (dead := [0]) (by kernel_rfl) rfl (by simp)) ?_
  refine AWp.then ⟨[⟨3, none, .ptr 1 0⟩, ⟨1, none, .ptr 0 0⟩], [.blk x0.enc, .opq (wrO 111 5 [])]⟩ (gOctetWriter.alloc rfl rfl rfl rfl (by kernel_rfl) rfl (dead := []) (by simp [exS])) ?_
  obtain ⟨r1, h24, hr⟩ := bind_some' hr
  obtain ⟨r2, h25, hr⟩ := bind_some' hr
  obtain ⟨r3, h26, hr⟩ := bind_some' hr
  obtain ⟨r4, h27, hr⟩ := bind_some' hr
  obtain ⟨h28, hr⟩ := need_some hr
  refine AWp.then ⟨[⟨3, none, .ptr 1 0⟩, ⟨1, none, .ptr 0 0⟩], [.blk x0.enc, .opq (wrO 111 5 (appL [] [(bitsOp .or .u8 (bitsOp .or .u8 (bitsOp .or .u8 r2 r3) r4) (cvtI .u8 (bitsOp .and .i64 x0.fPart 7)))]))]⟩ (AWp.regD Try.mixed Try.tyOk hΓ (keep := []) (dead := []) [] [(false, []), (false, []), (false, []), (false, []), (false, []), (false, []), (false, []), (false, []), (false, []), (false, []), (false, []), (false, []), (false, []), (false, []), (false, []), (false, []), (false, []), (true, [])] (by kernel_rfl) rfl (by simp [h24, h25, h26, h27, h28])) ?_
  refine AWp.seq ?_
  refine AWp.then ⟨[⟨24, none, .lit (.bool (notB r1))⟩, ⟨3, none, .ptr 1 0⟩, ⟨1, none, .ptr 0 0⟩], [.blk x0.enc, .opq (wrO 111 5 (appL [] [(bitsOp .or .u8 (bitsOp .or .u8 (bitsOp .or .u8 r2 r3) r4) (cvtI .u8 (bitsOp .and .i64 x0.fPart 7)))]))]⟩ (AWp.reg Try.tyOk hΓ (keep := [24]) (dead := []) (by kernel_rfl) rfl (by simp [h24])) ?_
  refine AWp.cond (b := (notB r1)) (by simp) (fun h29 => ?_) (fun h29 => ?_)
  · have hr := cond_t h29 hr
    obtain ⟨h30, hr⟩ := need_some hr
    refine AWp.then ⟨[⟨2, none, .lit (.string (strOfNums (appL [] [(bitsOp .or .u8 (bitsOp .or .u8 (bitsOp .or .u8 r2 r3) r4) (cvtI .u8 (bitsOp .and .i64 x0.fPart 7)))])))⟩], [.blk x0.enc, .opq wrX]⟩ (AWp.reg Try.tyOk hΓ (keep := [2]) (dead := [24, 3, 1]) (by kernel_rfl) rfl (by simp [h29, h30])) ?_
    refine AWp.ret ?_
    obtain rfl := some_inj hr
    refine fin_ret ?_
    simp
  · have hr := cond_f h29 hr
    refine AWp.skip ?_
    obtain ⟨r5, h31, hr⟩ := bind_some' hr
    obtain ⟨r6, h32, hr⟩ := bind_some' hr
    obtain ⟨r7, h33, hr⟩ := bind_some' hr
    obtain ⟨r8, h34, hr⟩ := bind_some' hr
    obtain ⟨h35, hr⟩ := need_some hr
    refine AWp.then ⟨[⟨3, none, .ptr 1 0⟩, ⟨1, none, .ptr 0 0⟩], [.blk x0.enc, .opq (wrO 111 5 (appL (appL [] [(bitsOp .or .u8 (bitsOp .or .u8 (bitsOp .or .u8 r2 r3) r4) (cvtI .u8 (bitsOp .and .i64 x0.fPart 7)))]) [(bitsOp .or .u8 (bitsOp .or .u8 (bitsOp .or .u8 r5 r6) r7) r8)]))]⟩ (AWp.regD Try.mixed Try.tyOk hΓ (keep := []) (dead := [24]) [] [(false, []), (false, []), (false, []), (false, []), (false, []), (false, []), (false, []), (false, []), (false, []), (false, []), (false, []), (false, []), (false, []), (false, []), (false, []), (false, []), (false, []), (false, []), (false, []), (false, []), (true, [])] (by kernel_rfl) rfl (by simp [h29, h31, h32, h33, h34, h35])) ?_
    refine AWp.meetF (fun (v1 : List Int) (γ1 : Unit) => ⟨[⟨3, none, .ptr 1 0⟩, ⟨1, none, .ptr 0 0⟩], [.blk x0.enc, .opq (wrO 111 5 v1)]⟩) (gVp8DescText.fin x0) hr (fun f hr => ?_) (fun v1 γ1 hr => ?_) (fun _ h => h)
    · refine AWp.block ?_
      refine AWp.then ⟨[⟨47, none, .lit (.bool (pickB (leqI 0 x0.fPicture) x0.fWide false))⟩, ⟨3, none, .ptr 1 0⟩, ⟨1, none, .ptr 0 0⟩], [.blk x0.enc, .opq (wrO 111 5 (appL (appL [] [(bitsOp .or .u8 (bitsOp .or .u8 (bitsOp .or .u8 r2 r3) r4) (cvtI .u8 (bitsOp .and .i64 x0.fPart 7)))]) [(bitsOp .or .u8 (bitsOp .or .u8 (bitsOp .or .u8 r5 r6) r7) r8)]))]⟩ (AWp.reg Try.tyOk hΓ (keep := [47]) (dead := []) (by kernel_rfl) rfl (by simp)) ?_
      refine AWp.cond (b := (pickB (leqI 0 x0.fPicture) x0.fWide false)) (by simp) (fun h36 => ?_) (fun h36 => ?_)
      · have hr := cond_t h36 hr
        obtain ⟨r9, h37, hr⟩ := bind_some' hr
        refine AWp.last ⟨[⟨3, none, .ptr 1 0⟩, ⟨1, none, .ptr 0 0⟩], [.blk x0.enc, .opq (wrO 111 5 r9)]⟩ (AWp.reg Try.tyOk hΓ (keep := []) (dead := [47]) (by kernel_rfl) rfl (by simp [h36, h37])) ?_
        obtain rfl := some_inj hr
        exact meet_go () 2 (by first | (simp; done) | simp [h24, h25, h26, h27, h28, h29, h31, h32, h33, h34, h35, h36, h37])
      · have hr := cond_f h36 hr
        refine AWp.then ⟨[⟨61, none, .lit (.bool (leqI 0 x0.fPicture))⟩, ⟨3, none, .ptr 1 0⟩, ⟨1, none, .ptr 0 0⟩], [.blk x0.enc, .opq (wrO 111 5 (appL (appL [] [(bitsOp .or .u8 (bitsOp .or .u8 (bitsOp .or .u8 r2 r3) r4) (cvtI .u8 (bitsOp .and .i64 x0.fPart 7)))]) [(bitsOp .or .u8 (bitsOp .or .u8 (bitsOp .or .u8 r5 r6) r7) r8)]))]⟩ (AWp.reg Try.tyOk hΓ (keep := [61]) (dead := [47]) (by kernel_rfl) rfl (by simp [h36])) ?_
        refine AWp.cond (b := (leqI 0 x0.fPicture)) (by simp) (fun h38 => ?_) (fun h38 => ?_)
        · have hr := cond_t h38 hr
          obtain ⟨h39, hr⟩ := need_some hr
          refine AWp.last ⟨[⟨3, none, .ptr 1 0⟩, ⟨1, none, .ptr 0 0⟩], [.blk x0.enc, .opq (wrO 111 5 (appL (appL (appL [] [(bitsOp .or .u8 (bitsOp .or .u8 (bitsOp .or .u8 r2 r3) r4) (cvtI .u8 (bitsOp .and .i64 x0.fPart 7)))]) [(bitsOp .or .u8 (bitsOp .or .u8 (bitsOp .or .u8 r5 r6) r7) r8)]) [(cvtI .u8 (bitsOp .and .i64 x0.fPicture 127))]))]⟩ (AWp.reg Try.tyOk hΓ (keep := []) (dead := [61]) (by kernel_rfl) rfl (by simp [h38, h39])) ?_
          obtain rfl := some_inj hr
          exact meet_go () 2 (by first | (simp; done) | simp [h24, h25, h26, h27, h28, h29, h31, h32, h33, h34, h35, h36, h38, h39])
        · have hr := cond_f h38 hr
          refine AWp.skip ?_
          obtain rfl := some_inj hr
          exact meet_go () 2 (by first | (simp; done) | simp [h24, h25, h26, h27, h28, h29, h31, h32, h33, h34, h35, h36, h38])
    · refine AWp.meetF (fun (v2 : List Int) (γ2 : Unit) => ⟨[⟨3, none, .ptr 1 0⟩, ⟨1, none, .ptr 0 0⟩], [.blk x0.enc, .opq (wrO 111 5 v2)]⟩) (gVp8DescText.fin x0) hr (fun f hr => ?_) (fun v2 γ2 hr => ?_) (fun _ h => h)
      · refine AWp.then ⟨[⟨73, none, .lit (.bool (leqI 0 x0.fLevel))⟩, ⟨3, none, .ptr 1 0⟩, ⟨1, none, .ptr 0 0⟩], [.blk x0.enc, .opq (wrO 111 5 v1)]⟩ (AWp.reg Try.tyOk hΓ (keep := [73]) (dead := []) (by kernel_rfl) rfl (by simp)) ?_
        refine AWp.cond (b := (leqI 0 x0.fLevel)) (by simp) (fun h40 => ?_) (fun h40 => ?_)
        · have hr := cond_t h40 hr
          obtain ⟨h41, hr⟩ := need_some hr
          refine AWp.last ⟨[⟨3, none, .ptr 1 0⟩, ⟨1, none, .ptr 0 0⟩], [.blk x0.enc, .opq (wrO 111 5 (appL v1 [(cvtI .u8 x0.fLevel)]))]⟩ (AWp.reg Try.tyOk hΓ (keep := []) (dead := [73]) (by kernel_rfl) rfl (by simp [h40, h41])) ?_
          obtain rfl := some_inj hr
          exact meet_go () 2 (by first | (simp; done) | simp [h24, h25, h26, h27, h28, h29, h31, h32, h33, h34, h35, h40, h41])
        · have hr := cond_f h40 hr
          refine AWp.skip ?_
          obtain rfl := some_inj hr
          exact meet_go () 2 (by first | (simp; done) | simp [h24, h25, h26, h27, h28, h29, h31, h32, h33, h34, h35, h40])
      · refine AWp.meetF (fun (v3 : List Int) (γ3 : Unit) => ⟨[⟨3, none, .ptr 1 0⟩], [.blk x0.enc, .opq (wrO 111 5 v3)]⟩) (gVp8DescText.fin x0) hr (fun f hr => ?_) (fun v3 γ3 hr => ?_) (fun _ h => h)
        · refine AWp.then ⟨[⟨86, none, .lit (.bool (pickB (leqI 0 x0.fLayer) true (leqI 0 x0.fKey)))⟩, ⟨3, none, .ptr 1 0⟩, ⟨1, none, .ptr 0 0⟩], [.blk x0.enc, .opq (wrO 111 5 v2)]⟩ (AWp.reg Try.tyOk hΓ (keep := [86]) (dead := []) (by kernel_rfl) rfl (by simp)) ?_
          refine AWp.cond (b := (pickB (leqI 0 x0.fLayer) true (leqI 0 x0.fKey))) (by simp) (fun h42 => ?_) (fun h42 => ?_)
          · have hr := cond_t h42 hr
            obtain ⟨h43, hr⟩ := need_some hr
            obtain ⟨r10, h44, hr⟩ := bind_some' hr
            obtain ⟨h45, hr⟩ := need_some hr
            refine AWp.last ⟨[⟨3, none, .ptr 1 0⟩], [.blk x0.enc, .opq (wrO 111 5 (appL v2 [(bitsOp .or .u8 (bitsOp .or .u8 (shlI .u8 (cvtI .u8 (maxI x0.fLayer 0)) 6) r10) (cvtI .u8 (maxI x0.fKey 0)))]))]⟩ (AWp.regD Try.mixed Try.tyOk hΓ (keep := []) (dead := [86, 1]) [] [(false, []), (false, []), (false, []), (false, []), (false, []), (false, []), (false, []), (false, []), (false, []), (false, []), (false, []), (false, []), (false, []), (false, []), (false, []), (true, [])] (by kernel_rfl) rfl (by simp [h42, h43, h44, h45])) ?_
            obtain rfl := some_inj hr
            exact meet_go () 2 (by first | (simp; done) | simp [h24, h25, h26, h27, h28, h29, h31, h32, h33, h34, h35, h42, h43, h44, h45])
          · have hr := cond_f h42 hr
            refine AWp.skip ?_
            obtain rfl := some_inj hr
            exact meet_go () 2 (by first | (simp; done) | simp [h24, h25, h26, h27, h28, h29, h31, h32, h33, h34, h35, h42])
        · obtain ⟨h46, hr⟩ := need_some hr
          refine AWp.then ⟨[⟨2, none, .lit (.string (strOfNums v3))⟩], [.blk x0.enc, .opq wrX]⟩ (AWp.reg Try.tyOk hΓ (keep := [2]) (dead := [3]) (by kernel_rfl) rfl (by simp [h46])) ?_
          refine AWp.ret ?_
          obtain rfl := some_inj hr
          refine fin_ret ?_
          simp

@[simp] noncomputable def gVp8DescText.S : Sp
  | [.agg e0], _ => some { av := .lit (.string ((gVp8DescText (Antiphonref04Desc.dec e0)).getD dflt)), M := none, obl := WeakL e0 (Antiphonref04Desc.enc (Antiphonref04Desc.dec e0)) ∧ (gVp8DescText (Antiphonref04Desc.dec e0)).isSome = true }
  | _, _ => none

set_option maxHeartbeats 1000000 in
theorem gVp8DescText.ok : SpecOk Try.prog 25 gVp8DescText.S := by
  intro l M out h
  unfold gVp8DescText.S at h
  split at h
  · rename_i e0
    cases h
    refine callOk_of fun ho => ?_
    obtain ⟨ox0, hs⟩ := ho
    generalize (Antiphonref04Desc.dec e0) = x0 at *
    obtain ⟨r, hr⟩ := Option.isSome_iff_exists.1 hs
    simp only [hr, Option.getD_some]
    have q := call_frame (M := M) [] (gVp8DescText.can x0 r hr) (by simp) rfl (by intro k i hk; simp at hk)
    exact callOk_conv q trivial (by simp; exact ox0) (by simp [frameOut, gVp8DescText.out]) (by simp [frameOut, gVp8DescText.out])
  · cases h

@[simp] def gVp8DescPicture.out (_x0 : Antiphonref04Desc) (_x1 : OctetReader) (r : Antiphonref04Desc × OctetReader) : Out := { av := .tup [], M := some [.blk [.lit (.bool r.1.fNonRef), .lit (.bool r.1.fStart), .lit (.int .i64 r.1.fPart), .lit (.int .i64 r.1.fPicture), .lit (.bool r.1.fWide), .lit (.int .i64 r.1.fLevel), .lit (.int .i64 r.1.fLayer), .lit (.bool r.1.fSync), .lit (.int .i64 r.1.fKey)], .blk [.lit (.string r.2.fS), .lit (.int .i64 r.2.fE)]] }
def gVp8DescPicture.fin (x0 : Antiphonref04Desc) (x1 : OctetReader) (r : Antiphonref04Desc × OctetReader) (σ : St) : Prop := finK (gVp8DescPicture.out x0 x1 r) [.blk x0.enc, .blk x1.enc] σ.M (resA Try.ty σ.A σ.M Try.f67.results.toList)
set_option maxHeartbeats 4000000 in
set_option maxRecDepth 100000 in
theorem gVp8DescPicture.can (x0 : Antiphonref04Desc) (x1 : OctetReader) (r : Antiphonref04Desc × OctetReader) (hr : gVp8DescPicture x0 x1 = some r) : CallOk Try.prog 67 [.ptr 0 0, .ptr 1 0] [.blk x0.enc, .blk x1.enc] (gVp8DescPicture.out x0 x1 r) := by
  unfold gVp8DescPicture at hr
  have hΓ := (gamL_cons gOctetReaderU8.ok (gamL_nil) : GamOk Try.prog _)
  refine call_of_awp Try.tyOk Try.func67 rfl (by kernel_rfl) rfl rfl (by simp) ?_
  intro _ _ _
  obtain ⟨r1, h5, hr⟩ := bind_some' hr
  refine AWp.then ⟨[⟨4, none, .lit (.int .i64 (cvtI .i64 r1.1))⟩, ⟨0, none, .ptr 0 0⟩, ⟨1, none, .ptr 1 0⟩], [.blk x0.enc, .blk r1.2.enc]⟩ (AWp.reg Try.tyOk hΓ (keep := [4]) (dead := []) (by kernel_rfl) rfl (by simp [h5])) ?_
  refine AWp.meetF (fun (v1 : Int × OctetReader × Antiphonref04Desc) (γ1 : Unit) => ⟨[⟨4, none, .lit (.int .i64 v1.1)⟩, ⟨0, none, .ptr 0 0⟩], [.blk v1.2.2.enc, .blk v1.2.1.enc]⟩) (gVp8DescPicture.fin x0 x1) hr (fun f hr => ?_) (fun v1 γ1 hr => ?_) (fun _ h => h)
  · refine AWp.then ⟨[⟨4, none, .lit (.int .i64 (cvtI .i64 r1.1))⟩, ⟨0, none, .ptr 0 0⟩, ⟨1, none, .ptr 1 0⟩], [.blk [.lit (.bool x0.fNonRef), .lit (.bool x0.fStart), .lit (.int .i64 x0.fPart), .lit (.int .i64 x0.fPicture), .lit (.bool (ltI 127 (cvtI .i64 r1.1))), .lit (.int .i64 x0.fLevel), .lit (.int .i64 x0.fLayer), .lit (.bool x0.fSync), .lit (.int .i64 x0.fKey)], .blk r1.2.enc]⟩ (AWp.reg Try.tyOk hΓ (keep := []) (dead := []) (by kernel_rfl) rfl (by simp)) ?_
    refine AWp.then ⟨[⟨16, none, .lit (.bool (ltI 127 (cvtI .i64 r1.1)))⟩, ⟨4, none, .lit (.int .i64 (cvtI .i64 r1.1))⟩, ⟨0, none, .ptr 0 0⟩, ⟨1, none, .ptr 1 0⟩], [.blk [.lit (.bool x0.fNonRef), .lit (.bool x0.fStart), .lit (.int .i64 x0.fPart), .lit (.int .i64 x0.fPicture), .lit (.bool (ltI 127 (cvtI .i64 r1.1))), .lit (.int .i64 x0.fLevel), .lit (.int .i64 x0.fLayer), .lit (.bool x0.fSync), .lit (.int .i64 x0.fKey)], .blk r1.2.enc]⟩ (AWp.reg Try.tyOk hΓ (keep := [16]) (dead := []) (by kernel_rfl) rfl (by simp)) ?_
    refine AWp.cond (b := (ltI 127 (cvtI .i64 r1.1))) (by simp) (fun h6 => ?_) (fun h6 => ?_)
    · have hr := cond_t h6 hr
      obtain ⟨h7, hr⟩ := need_some hr
      obtain ⟨r2, h8, hr⟩ := bind_some' hr
      refine AWp.last ⟨[⟨4, none, .lit (.int .i64 (bitsOp .or .i64 (shlI .i64 (bitsOp .and .i64 (cvtI .i64 r1.1) 127) 8) (cvtI .i64 r2.1)))⟩, ⟨0, none, .ptr 0 0⟩], [.blk [.lit (.bool x0.fNonRef), .lit (.bool x0.fStart), .lit (.int .i64 x0.fPart), .lit (.int .i64 x0.fPicture), .lit (.bool true), .lit (.int .i64 x0.fLevel), .lit (.int .i64 x0.fLayer), .lit (.bool x0.fSync), .lit (.int .i64 x0.fKey)], .blk r2.2.enc]⟩ (AWp.reg Try.tyOk hΓ (keep := [4]) (dead := [16, 1]) (by kernel_rfl) rfl (by simp [h6, h7, h8])) ?_
      obtain rfl := some_inj hr
      exact meet_go () 2 (by first | (simp; done) | simp [h5, h6, h7, h8])
    · have hr := cond_f h6 hr
      refine AWp.skip ?_
      obtain rfl := some_inj hr
      exact meet_go () 2 (by first | (simp; done) | simp [h6])
  · refine AWp.last ⟨[], [.blk [.lit (.bool v1.2.2.fNonRef), .lit (.bool v1.2.2.fStart), .lit (.int .i64 v1.2.2.fPart), .lit (.int .i64 v1.1), .lit (.bool v1.2.2.fWide), .lit (.int .i64 v1.2.2.fLevel), .lit (.int .i64 v1.2.2.fLayer), .lit (.bool v1.2.2.fSync), .lit (.int .i64 v1.2.2.fKey)], .blk v1.2.1.enc]⟩ (AWp.reg Try.tyOk hΓ (keep := []) (dead := [4, 0]) (by kernel_rfl) rfl (by simp)) ?_
    obtain rfl := some_inj hr
    refine fin_norm ?_
    simp

@[simp] noncomputable def gVp8DescPicture.S : Sp
  | [.ptr i0 0, .ptr i1 0], M => match M[i0]? with
    | some (.blk c0) => (match M[i1]? with
    | some (.blk c1) => (fun (y0 : Antiphonref04Desc) => (fun (r : Antiphonref04Desc × OctetReader) => some { av := .tup [], M := some ((M.set i0 (.blk [.lit (.bool (r.1.fNonRef)), .lit (.bool (r.1.fStart)), .lit (.int .i64 (r.1.fPart)), .lit (.int .i64 (r.1.fPicture)), .lit (.bool (r.1.fWide)), .lit (.int .i64 (r.1.fLevel)), .lit (.int .i64 (r.1.fLayer)), .lit (.bool (r.1.fSync)), .lit (.int .i64 (r.1.fKey))])).set i1 (.blk [.lit (.string (r.2.fS)), .lit (.int .i64 (r.2.fE))])), obl := c0 = Antiphonref04Desc.enc y0 ∧ c1 = OctetReader.enc (OctetReader.dec c1) ∧ (gVp8DescPicture y0 (OctetReader.dec c1)).isSome = true ∧ i0 ≠ i1 }) ((gVp8DescPicture y0 (OctetReader.dec c1)).getD dflt)) (Antiphonref04Desc.dec c0)
    | _ => none)
    | _ => none
  | _, _ => none

set_option maxHeartbeats 1000000 in
theorem gVp8DescPicture.ok : SpecOk Try.prog 67 gVp8DescPicture.S := by
  intro l M out h
  unfold gVp8DescPicture.S at h
  split at h
  · rename_i i0 i1
    split at h
    case h_2 => cases h
    rename_i c0 hM0
    split at h
    case h_2 => cases h
    rename_i c1 hM1
    try dsimp only at h
    cases h
    refine callOk_of fun ho => ?_
    obtain ⟨oc0, oc1, hs, hne0⟩ := ho
    generalize (Antiphonref04Desc.dec c0) = y0 at *
    generalize (OctetReader.dec c1) = y1 at *
    subst oc0
    subst oc1
    obtain ⟨r, hr⟩ := Option.isSome_iff_exists.1 hs
    simp only [hr, Option.getD_some]
    have q := call_frame (M := M) [i0, i1] (gVp8DescPicture.can y0 y1 r hr) (by simp [hne0]) rfl (by intro k i hk; (cases k with | zero => (simp at hk; subst hk; simp [hM0]) | succ k => ((cases k with | zero => (simp at hk; subst hk; simp [hM1]) | succ k => (simp at hk)))))
    exact callOk_conv q trivial (by simp [into]) (by simp [frameOut, gVp8DescPicture.out]) (by simp [frameOut, gVp8DescPicture.out])
  · cases h

@[simp] def gVp8Parse.out (_x0 : ByteArray) (r : Antiphonref04Desc × ByteArray × Int) : Out := { av := .tup [.agg [.lit (.bool r.1.fNonRef), .lit (.bool r.1.fStart), .lit (.int .i64 r.1.fPart), .lit (.int .i64 r.1.fPicture), .lit (.bool r.1.fWide), .lit (.int .i64 r.1.fLevel), .lit (.int .i64 r.1.fLayer), .lit (.bool r.1.fSync), .lit (.int .i64 r.1.fKey)], .lit (.string r.2.1), .lit (.int .i64 r.2.2)], M := none }
def gVp8Parse.fin (x0 : ByteArray) (r : Antiphonref04Desc × ByteArray × Int) (σ : St) : Prop := finK (gVp8Parse.out x0 r) [] σ.M (resA Try.ty σ.A σ.M Try.f56.results.toList)
set_option maxHeartbeats 4000000 in
set_option maxRecDepth 100000 in
theorem gVp8Parse.can (x0 : ByteArray) (r : Antiphonref04Desc × ByteArray × Int) (hr : gVp8Parse x0 = some r) : CallOk Try.prog 56 [.lit (.string x0)] [] (gVp8Parse.out x0 r) := by
  unfold gVp8Parse at hr
  have hΓ := (gamL_cons gOctetReaderErr.ok (gamL_cons gOctetReaderRest.ok (gamL_cons gOctetReaderU8.ok (gamL_cons gVp8DescPicture.ok (gamL_cons gOctetRead.ok (gamL_cons gVp8Plain.ok (gamL_nil)))))) : GamOk Try.prog _)
  refine call_of_awp Try.tyOk Try.func56 rfl (by kernel_rfl) rfl rfl (by simp) ?_
  intro _ _ _
  refine AWp.then ⟨[⟨2, none, .ptr 0 0⟩, ⟨0, none, .lit (.string x0)⟩], [.blk [.lit (.bool false), .lit (.bool false), .lit (.int .i64 0), .lit (.int .i64 0), .lit (.bool false), .lit (.int .i64 0), .lit (.int .i64 0), .lit (.bool false), .lit (.int .i64 0)]]⟩ (AWp.reg Try.tyOk hΓ (keep := [2]) (dead := []) (by kernel_rfl) rfl (by simp)) ?_
  obtain ⟨r1, h18, hr⟩ := bind_some' hr
  refine AWp.then ⟨[⟨5, none, .ptr 1 0⟩, ⟨2, none, .ptr 0 0⟩], [.blk [.lit (.bool false), .lit (.bool false), .lit (.int .i64 0), .lit (.int .i64 0), .lit (.bool false), .lit (.int .i64 0), .lit (.int .i64 0), .lit (.bool false), .lit (.int .i64 0)], .blk r1.enc]⟩ (AWp.reg Try.tyOk hΓ (keep := [5]) (dead := [0]) (by kernel_rfl) rfl (by simp [h18])) ?_
  obtain ⟨r2, h19, hr⟩ := bind_some' hr
  refine AWp.then ⟨[⟨6, none, .lit (.int .u8 r2.1)⟩, ⟨5, none, .ptr 1 0⟩, ⟨2, none, .ptr 0 0⟩], [.blk [.lit (.bool false), .lit (.bool false), .lit (.int .i64 0), .lit (.int .i64 0), .lit (.bool false), .lit (.int .i64 0), .lit (.int .i64 0), .lit (.bool false), .lit (.int .i64 0)], .blk r2.2.enc]⟩ (AWp.reg Try.tyOk hΓ (keep := [6]) (dead := []) (by kernel_rfl) rfl (by simp [h19])) ?_
  obtain ⟨r3, h20, hr⟩ := bind_some' hr
  refine AWp.then ⟨[⟨7, none, .ptr 2 0⟩, ⟨6, none, .lit (.int .u8 r2.1)⟩, ⟨5, none, .ptr 1 0⟩, ⟨2, none, .ptr 0 0⟩], [.blk [.lit (.bool false), .lit (.bool false), .lit (.int .i64 0), .lit (.int .i64 0), .lit (.bool false), .lit (.int .i64 0), .lit (.int .i64 0), .lit (.bool false), .lit (.int .i64 0)], .blk r2.2.enc, .blk r3.enc]⟩ (AWp.reg Try.tyOk hΓ (keep := [7]) (dead := []) (by kernel_rfl) rfl (by simp [h20])) ?_
  refine AWp.then ⟨[⟨7, none, .ptr 2 0⟩, ⟨6, none, .lit (.int .u8 r2.1)⟩, ⟨5, none, .ptr 1 0⟩, ⟨2, none, .ptr 0 0⟩], [.blk [.lit (.bool false), .lit (.bool false), .lit (.int .i64 0), .lit (.int .i64 0), .lit (.bool false), .lit (.int .i64 0), .lit (.int .i64 0), .lit (.bool false), .lit (.int .i64 0)], .blk r2.2.enc, .blk [.lit (.bool (ltI 0 (bitsOp .and .u8 r2.1 32))), .lit (.bool (ltI 0 (bitsOp .and .u8 r2.1 16))), .lit (.int .i64 (cvtI .i64 (bitsOp .and .u8 r2.1 7))), .lit (.int .i64 r3.fPicture), .lit (.bool r3.fWide), .lit (.int .i64 r3.fLevel), .lit (.int .i64 r3.fLayer), .lit (.bool r3.fSync), .lit (.int .i64 r3.fKey)]]⟩ (AWp.reg Try.tyOk hΓ (keep := []) (dead := []) (by kernel_rfl) rfl (by simp)) ?_
  refine AWp.then ⟨[⟨8, none, .lit (.int .u8 0)⟩, ⟨7, none, .ptr 2 0⟩, ⟨6, none, .lit (.int .u8 r2.1)⟩, ⟨5, none, .ptr 1 0⟩, ⟨2, none, .ptr 0 0⟩], [.blk [.lit (.bool false), .lit (.bool false), .lit (.int .i64 0), .lit (.int .i64 0), .lit (.bool false), .lit (.int .i64 0), .lit (.int .i64 0), .lit (.bool false), .lit (.int .i64 0)], .blk r2.2.enc, .blk [.lit (.bool (ltI 0 (bitsOp .and .u8 r2.1 32))), .lit (.bool (ltI 0 (bitsOp .and .u8 r2.1 16))), .lit (.int .i64 (cvtI .i64 (bitsOp .and .u8 r2.1 7))), .lit (.int .i64 r3.fPicture), .lit (.bool r3.fWide), .lit (.int .i64 r3.fLevel), .lit (.int .i64 r3.fLayer), .lit (.bool r3.fSync), .lit (.int .i64 r3.fKey)]]⟩ (AWp.reg Try.tyOk hΓ (keep := [8]) (dead := []) (by kernel_rfl) rfl (by simp)) ?_
  refine AWp.meetF (fun (v1 : Int × OctetReader) (γ1 : Unit) => ⟨[⟨8, none, .lit (.int .u8 v1.1)⟩, ⟨7, none, .ptr 2 0⟩, ⟨5, none, .ptr 1 0⟩, ⟨2, none, .ptr 0 0⟩], [.blk [.lit (.bool false), .lit (.bool false), .lit (.int .i64 0), .lit (.int .i64 0), .lit (.bool false), .lit (.int .i64 0), .lit (.int .i64 0), .lit (.bool false), .lit (.int .i64 0)], .blk v1.2.enc, .blk [.lit (.bool (ltI 0 (bitsOp .and .u8 r2.1 32))), .lit (.bool (ltI 0 (bitsOp .and .u8 r2.1 16))), .lit (.int .i64 (cvtI .i64 (bitsOp .and .u8 r2.1 7))), .lit (.int .i64 r3.fPicture), .lit (.bool r3.fWide), .lit (.int .i64 r3.fLevel), .lit (.int .i64 r3.fLayer), .lit (.bool r3.fSync), .lit (.int .i64 r3.fKey)]]⟩) (gVp8Parse.fin x0) hr (fun f hr => ?_) (fun v1 γ1 hr => ?_) (fun _ h => h)
  · refine AWp.then ⟨[⟨29, none, .lit (.bool (ltI 127 r2.1))⟩, ⟨8, none, .lit (.int .u8 0)⟩, ⟨7, none, .ptr 2 0⟩, ⟨5, none, .ptr 1 0⟩, ⟨2, none, .ptr 0 0⟩], [.blk [.lit (.bool false), .lit (.bool false), .lit (.int .i64 0), .lit (.int .i64 0), .lit (.bool false), .lit (.int .i64 0), .lit (.int .i64 0), .lit (.bool false), .lit (.int .i64 0)], .blk r2.2.enc, .blk [.lit (.bool (ltI 0 (bitsOp .and .u8 r2.1 32))), .lit (.bool (ltI 0 (bitsOp .and .u8 r2.1 16))), .lit (.int .i64 (cvtI .i64 (bitsOp .and .u8 r2.1 7))), .lit (.int .i64 r3.fPicture), .lit (.bool r3.fWide), .lit (.int .i64 r3.fLevel), .lit (.int .i64 r3.fLayer), .lit (.bool r3.fSync), .lit (.int .i64 r3.fKey)]]⟩ (AWp.reg Try.tyOk hΓ (keep := [29]) (dead := [6]) (by kernel_rfl) rfl (by simp)) ?_
    refine AWp.cond (b := (ltI 127 r2.1)) (by simp) (fun h21 => ?_) (fun h21 => ?_)
    · have hr := cond_t h21 hr
      obtain ⟨r4, h22, hr⟩ := bind_some' hr
      refine AWp.last ⟨[⟨8, none, .lit (.int .u8 r4.1)⟩, ⟨7, none, .ptr 2 0⟩, ⟨5, none, .ptr 1 0⟩, ⟨2, none, .ptr 0 0⟩], [.blk [.lit (.bool false), .lit (.bool false), .lit (.int .i64 0), .lit (.int .i64 0), .lit (.bool false), .lit (.int .i64 0), .lit (.int .i64 0), .lit (.bool false), .lit (.int .i64 0)], .blk r4.2.enc, .blk [.lit (.bool (ltI 0 (bitsOp .and .u8 r2.1 32))), .lit (.bool (ltI 0 (bitsOp .and .u8 r2.1 16))), .lit (.int .i64 (cvtI .i64 (bitsOp .and .u8 r2.1 7))), .lit (.int .i64 r3.fPicture), .lit (.bool r3.fWide), .lit (.int .i64 r3.fLevel), .lit (.int .i64 r3.fLayer), .lit (.bool r3.fSync), .lit (.int .i64 r3.fKey)]]⟩ (AWp.reg Try.tyOk hΓ (keep := [8]) (dead := [29]) (by kernel_rfl) rfl (by simp [h21, h22])) ?_
      obtain rfl := some_inj hr
      exact meet_go () 3 (by first | (simp; done) | simp [h18, h19, h20, h21, h22])
    · have hr := cond_f h21 hr
      refine AWp.skip ?_
      obtain rfl := some_inj hr
      exact meet_go () 3 (by first | (simp; done) | simp [h18, h19, h20, h21])
  · refine AWp.meetF (fun (v2 : OctetReader × Antiphonref04Desc) (γ2 : Unit) => ⟨[⟨8, none, .lit (.int .u8 v1.1)⟩, ⟨7, none, .ptr 2 0⟩, ⟨5, none, .ptr 1 0⟩, ⟨2, none, .ptr 0 0⟩], [.blk [.lit (.bool false), .lit (.bool false), .lit (.int .i64 0), .lit (.int .i64 0), .lit (.bool false), .lit (.int .i64 0), .lit (.int .i64 0), .lit (.bool false), .lit (.int .i64 0)], .blk v2.1.enc, .blk v2.2.enc]⟩) (gVp8Parse.fin x0) hr (fun f hr => ?_) (fun v2 γ2 hr => ?_) (fun _ h => h)
    · refine AWp.then ⟨[⟨34, none, .lit (.bool (ltI 0 (bitsOp .and .u8 v1.1 128)))⟩, ⟨8, none, .lit (.int .u8 v1.1)⟩, ⟨7, none, .ptr 2 0⟩, ⟨5, none, .ptr 1 0⟩, ⟨2, none, .ptr 0 0⟩], [.blk [.lit (.bool false), .lit (.bool false), .lit (.int .i64 0), .lit (.int .i64 0), .lit (.bool false), .lit (.int .i64 0), .lit (.int .i64 0), .lit (.bool false), .lit (.int .i64 0)], .blk v1.2.enc, .blk [.lit (.bool (ltI 0 (bitsOp .and .u8 r2.1 32))), .lit (.bool (ltI 0 (bitsOp .and .u8 r2.1 16))), .lit (.int .i64 (cvtI .i64 (bitsOp .and .u8 r2.1 7))), .lit (.int .i64 r3.fPicture), .lit (.bool r3.fWide), .lit (.int .i64 r3.fLevel), .lit (.int .i64 r3.fLayer), .lit (.bool r3.fSync), .lit (.int .i64 r3.fKey)]]⟩ (AWp.reg Try.tyOk hΓ (keep := [34]) (dead := []) (by kernel_rfl) rfl (by simp)) ?_
      refine AWp.cond (b := (ltI 0 (bitsOp .and .u8 v1.1 128))) (by simp) (fun h23 => ?_) (fun h23 => ?_)
      · have hr := cond_t h23 hr
        obtain ⟨r5, h24, hr⟩ := bind_some' hr
        refine AWp.last ⟨[⟨8, none, .lit (.int .u8 v1.1)⟩, ⟨7, none, .ptr 2 0⟩, ⟨5, none, .ptr 1 0⟩, ⟨2, none, .ptr 0 0⟩], [.blk [.lit (.bool false), .lit (.bool false), .lit (.int .i64 0), .lit (.int .i64 0), .lit (.bool false), .lit (.int .i64 0), .lit (.int .i64 0), .lit (.bool false), .lit (.int .i64 0)], .blk r5.2.enc, .blk r5.1.enc]⟩ (AWp.reg Try.tyOk hΓ (keep := []) (dead := [34]) (by kernel_rfl) rfl (by simp [h23, h24])) ?_
        obtain rfl := some_inj hr
        exact meet_go () 3 (by first | (simp; done) | simp [h18, h19, h20, h23, h24])
      · have hr := cond_f h23 hr
        refine AWp.skip ?_
        obtain rfl := some_inj hr
        exact meet_go () 3 (by first | (simp; done) | simp [h18, h19, h20, h23])
    · refine AWp.meetF (fun (v3 : OctetReader × Antiphonref04Desc) (γ3 : Unit) => ⟨[⟨8, none, .lit (.int .u8 v1.1)⟩, ⟨7, none, .ptr 2 0⟩, ⟨5, none, .ptr 1 0⟩, ⟨2, none, .ptr 0 0⟩], [.blk [.lit (.bool false), .lit (.bool false), .lit (.int .i64 0), .lit (.int .i64 0), .lit (.bool false), .lit (.int .i64 0), .lit (.int .i64 0), .lit (.bool false), .lit (.int .i64 0)], .blk v3.1.enc, .blk v3.2.enc]⟩) (gVp8Parse.fin x0) hr (fun f hr => ?_) (fun v3 γ3 hr => ?_) (fun _ h => h)
      · refine AWp.then ⟨[⟨39, none, .lit (.bool (ltI 0 (bitsOp .and .u8 v1.1 64)))⟩, ⟨8, none, .lit (.int .u8 v1.1)⟩, ⟨7, none, .ptr 2 0⟩, ⟨5, none, .ptr 1 0⟩, ⟨2, none, .ptr 0 0⟩], [.blk [.lit (.bool false), .lit (.bool false), .lit (.int .i64 0), .lit (.int .i64 0), .lit (.bool false), .lit (.int .i64 0), .lit (.int .i64 0), .lit (.bool false), .lit (.int .i64 0)], .blk v2.1.enc, .blk v2.2.enc]⟩ (AWp.reg Try.tyOk hΓ (keep := [39]) (dead := []) (by kernel_rfl) rfl (by simp)) ?_
        refine AWp.cond (b := (ltI 0 (bitsOp .and .u8 v1.1 64))) (by simp) (fun h25 => ?_) (fun h25 => ?_)
        · have hr := cond_t h25 hr
          obtain ⟨r6, h26, hr⟩ := bind_some' hr
          refine AWp.last ⟨[⟨8, none, .lit (.int .u8 v1.1)⟩, ⟨7, none, .ptr 2 0⟩, ⟨5, none, .ptr 1 0⟩, ⟨2, none, .ptr 0 0⟩], [.blk [.lit (.bool false), .lit (.bool false), .lit (.int .i64 0), .lit (.int .i64 0), .lit (.bool false), .lit (.int .i64 0), .lit (.int .i64 0), .lit (.bool false), .lit (.int .i64 0)], .blk r6.2.enc, .blk [.lit (.bool v2.2.fNonRef), .lit (.bool v2.2.fStart), .lit (.int .i64 v2.2.fPart), .lit (.int .i64 v2.2.fPicture), .lit (.bool v2.2.fWide), .lit (.int .i64 (cvtI .i64 r6.1)), .lit (.int .i64 v2.2.fLayer), .lit (.bool v2.2.fSync), .lit (.int .i64 v2.2.fKey)]]⟩ (AWp.reg Try.tyOk hΓ (keep := []) (dead := [39]) (by kernel_rfl) rfl (by simp [h25, h26])) ?_
          obtain rfl := some_inj hr
          exact meet_go () 3 (by first | (simp; done) | simp [h18, h19, h20, h25, h26])
        · have hr := cond_f h25 hr
          refine AWp.skip ?_
          obtain rfl := some_inj hr
          exact meet_go () 3 (by first | (simp; done) | simp [h18, h19, h20, h25])
      · refine AWp.meetF (fun (v4 : OctetReader × Antiphonref04Desc) (γ4 : Unit) => ⟨[⟨7, none, .ptr 2 0⟩, ⟨5, none, .ptr 1 0⟩, ⟨2, none, .ptr 0 0⟩], [.blk [.lit (.bool false), .lit (.bool false), .lit (.int .i64 0), .lit (.int .i64 0), .lit (.bool false), .lit (.int .i64 0), .lit (.int .i64 0), .lit (.bool false), .lit (.int .i64 0)], .blk v4.1.enc, .blk v4.2.enc]⟩) (gVp8Parse.fin x0) hr (fun f hr => ?_) (fun v4 γ4 hr => ?_) (fun _ h => h)
        · refine AWp.then ⟨[⟨46, none, .lit (.bool (ltI 0 (bitsOp .and .u8 v1.1 48)))⟩, ⟨8, none, .lit (.int .u8 v1.1)⟩, ⟨7, none, .ptr 2 0⟩, ⟨5, none, .ptr 1 0⟩, ⟨2, none, .ptr 0 0⟩], [.blk [.lit (.bool false), .lit (.bool false), .lit (.int .i64 0), .lit (.int .i64 0), .lit (.bool false), .lit (.int .i64 0), .lit (.int .i64 0), .lit (.bool false), .lit (.int .i64 0)], .blk v3.1.enc, .blk v3.2.enc]⟩ (AWp.reg Try.tyOk hΓ (keep := [46]) (dead := []) (by kernel_rfl) rfl (by simp)) ?_
          refine AWp.cond (b := (ltI 0 (bitsOp .and .u8 v1.1 48))) (by simp) (fun h27 => ?_) (fun h27 => ?_)
          · have hr := cond_t h27 hr
            obtain ⟨r7, h28, hr⟩ := bind_some' hr
            refine AWp.then ⟨[⟨9, none, .lit (.int .u8 r7.1)⟩, ⟨8, none, .lit (.int .u8 v1.1)⟩, ⟨7, none, .ptr 2 0⟩, ⟨5, none, .ptr 1 0⟩, ⟨2, none, .ptr 0 0⟩], [.blk [.lit (.bool false), .lit (.bool false), .lit (.int .i64 0), .lit (.int .i64 0), .lit (.bool false), .lit (.int .i64 0), .lit (.int .i64 0), .lit (.bool false), .lit (.int .i64 0)], .blk r7.2.enc, .blk v3.2.enc]⟩ (AWp.reg Try.tyOk hΓ (keep := [9]) (dead := [46]) (by kernel_rfl) rfl (by simp [h27, h28])) ?_
            refine AWp.meetF (fun (v5 : Antiphonref04Desc) (γ5 : Unit) => ⟨[⟨9, none, .lit (.int .u8 r7.1)⟩, ⟨8, none, .lit (.int .u8 v1.1)⟩, ⟨7, none, .ptr 2 0⟩, ⟨5, none, .ptr 1 0⟩, ⟨2, none, .ptr 0 0⟩], [.blk [.lit (.bool false), .lit (.bool false), .lit (.int .i64 0), .lit (.int .i64 0), .lit (.bool false), .lit (.int .i64 0), .lit (.int .i64 0), .lit (.bool false), .lit (.int .i64 0)], .blk r7.2.enc, .blk v5.enc]⟩) (QRm (gVp8Parse.fin x0)) hr (fun f hr => ?_) (fun v5 γ5 hr => ?_) (fun _ h => QRm_ret h)
            · refine AWp.then ⟨[⟨51, none, .lit (.bool (ltI 0 (bitsOp .and .u8 v1.1 32)))⟩, ⟨9, none, .lit (.int .u8 r7.1)⟩, ⟨8, none, .lit (.int .u8 v1.1)⟩, ⟨7, none, .ptr 2 0⟩, ⟨5, none, .ptr 1 0⟩, ⟨2, none, .ptr 0 0⟩], [.blk [.lit (.bool false), .lit (.bool false), .lit (.int .i64 0), .lit (.int .i64 0), .lit (.bool false), .lit (.int .i64 0), .lit (.int .i64 0), .lit (.bool false), .lit (.int .i64 0)], .blk r7.2.enc, .blk v3.2.enc]⟩ (AWp.reg Try.tyOk hΓ (keep := [51]) (dead := []) (by kernel_rfl) rfl (by simp)) ?_
              refine AWp.cond (b := (ltI 0 (bitsOp .and .u8 v1.1 32))) (by simp) (fun h29 => ?_) (fun h29 => ?_)
              · have hr := cond_t h29 hr
                obtain ⟨h30, hr⟩ := need_some hr
                refine AWp.last ⟨[⟨9, none, .lit (.int .u8 r7.1)⟩, ⟨8, none, .lit (.int .u8 v1.1)⟩, ⟨7, none, .ptr 2 0⟩, ⟨5, none, .ptr 1 0⟩, ⟨2, none, .ptr 0 0⟩], [.blk [.lit (.bool false), .lit (.bool false), .lit (.int .i64 0), .lit (.int .i64 0), .lit (.bool false), .lit (.int .i64 0), .lit (.int .i64 0), .lit (.bool false), .lit (.int .i64 0)], .blk r7.2.enc, .blk [.lit (.bool v3.2.fNonRef), .lit (.bool v3.2.fStart), .lit (.int .i64 v3.2.fPart), .lit (.int .i64 v3.2.fPicture), .lit (.bool v3.2.fWide), .lit (.int .i64 v3.2.fLevel), .lit (.int .i64 (cvtI .i64 (shrI .u8 r7.1 6))), .lit (.bool (ltI 0 (bitsOp .and .u8 r7.1 32))), .lit (.int .i64 v3.2.fKey)]]⟩ (AWp.reg Try.tyOk hΓ (keep := []) (dead := [51]) (by kernel_rfl) rfl (by simp [h29, h30])) ?_
                obtain rfl := some_inj hr
                exact meet_go () 3 (by first | (simp; done) | simp [h18, h19, h20, h27, h28, h29, h30])
              · have hr := cond_f h29 hr
                refine AWp.skip ?_
                obtain rfl := some_inj hr
                exact meet_go () 3 (by first | (simp; done) | simp [h18, h19, h20, h27, h28, h29])
            · refine AWp.then ⟨[⟨62, none, .lit (.bool (ltI 0 (bitsOp .and .u8 v1.1 16)))⟩, ⟨9, none, .lit (.int .u8 r7.1)⟩, ⟨7, none, .ptr 2 0⟩, ⟨5, none, .ptr 1 0⟩, ⟨2, none, .ptr 0 0⟩], [.blk [.lit (.bool false), .lit (.bool false), .lit (.int .i64 0), .lit (.int .i64 0), .lit (.bool false), .lit (.int .i64 0), .lit (.int .i64 0), .lit (.bool false), .lit (.int .i64 0)], .blk r7.2.enc, .blk v5.enc]⟩ (AWp.reg Try.tyOk hΓ (keep := [62]) (dead := [8]) (by kernel_rfl) rfl (by simp)) ?_
              refine AWp.cond (b := (ltI 0 (bitsOp .and .u8 v1.1 16))) (by simp) (fun h31 => ?_) (fun h31 => ?_)
              · have hr := cond_t h31 hr
                refine AWp.last ⟨[⟨7, none, .ptr 2 0⟩, ⟨5, none, .ptr 1 0⟩, ⟨2, none, .ptr 0 0⟩], [.blk [.lit (.bool false), .lit (.bool false), .lit (.int .i64 0), .lit (.int .i64 0), .lit (.bool false), .lit (.int .i64 0), .lit (.int .i64 0), .lit (.bool false), .lit (.int .i64 0)], .blk r7.2.enc, .blk [.lit (.bool v5.fNonRef), .lit (.bool v5.fStart), .lit (.int .i64 v5.fPart), .lit (.int .i64 v5.fPicture), .lit (.bool v5.fWide), .lit (.int .i64 v5.fLevel), .lit (.int .i64 v5.fLayer), .lit (.bool v5.fSync), .lit (.int .i64 (cvtI .i64 (bitsOp .and .u8 r7.1 31)))]]⟩ (AWp.reg Try.tyOk hΓ (keep := []) (dead := [62, 9]) (by kernel_rfl) rfl (by simp [h31])) ?_
                obtain rfl := some_inj hr
                exact meet_go () 3 (by first | (simp; done) | simp [h18, h19, h20, h27, h28, h31])
              · have hr := cond_f h31 hr
                refine AWp.skip ?_
                obtain rfl := some_inj hr
                exact meet_go () 3 (by first | (simp; done) | simp [h18, h19, h20, h27, h28, h31])
          · have hr := cond_f h27 hr
            refine AWp.skip ?_
            obtain rfl := some_inj hr
            exact meet_go () 3 (by first | (simp; done) | simp [h18, h19, h20, h27])
        · refine AWp.seq ?_
          obtain ⟨r8, h32, hr⟩ := bind_some' hr
          refine AWp.then ⟨[⟨10, none, .lit (.int .i64 r8)⟩, ⟨7, none, .ptr 2 0⟩, ⟨5, none, .ptr 1 0⟩, ⟨2, none, .ptr 0 0⟩], [.blk [.lit (.bool false), .lit (.bool false), .lit (.int .i64 0), .lit (.int .i64 0), .lit (.bool false), .lit (.int .i64 0), .lit (.int .i64 0), .lit (.bool false), .lit (.int .i64 0)], .blk v4.1.enc, .blk v4.2.enc]⟩ (AWp.reg Try.tyOk hΓ (keep := [10]) (dead := []) (by kernel_rfl) rfl (by simp [h32])) ?_
          refine AWp.then ⟨[⟨70, none, .lit (.bool (neI r8 0))⟩, ⟨10, none, .lit (.int .i64 r8)⟩, ⟨7, none, .ptr 2 0⟩, ⟨5, none, .ptr 1 0⟩, ⟨2, none, .ptr 0 0⟩], [.blk [.lit (.bool false), .lit (.bool false), .lit (.int .i64 0), .lit (.int .i64 0), .lit (.bool false), .lit (.int .i64 0), .lit (.int .i64 0), .lit (.bool false), .lit (.int .i64 0)], .blk v4.1.enc, .blk v4.2.enc]⟩ (AWp.reg Try.tyOk hΓ (keep := [70]) (dead := []) (by kernel_rfl) rfl (by simp)) ?_
          refine AWp.cond (b := (neI r8 0)) (by simp) (fun h33 => ?_) (fun h33 => ?_)
          · have hr := cond_t h33 hr
            refine AWp.then ⟨[⟨3, none, .lit (.string ⟨#[]⟩)⟩, ⟨4, none, .lit (.int .i64 r8)⟩, ⟨2, none, .ptr 0 0⟩], [.blk [.lit (.bool false), .lit (.bool false), .lit (.int .i64 0), .lit (.int .i64 0), .lit (.bool false), .lit (.int .i64 0), .lit (.int .i64 0), .lit (.bool false), .lit (.int .i64 0)], .blk v4.1.enc, .blk v4.2.enc]⟩ (AWp.reg Try.tyOk hΓ (keep := [3, 4]) (dead := [70, 10, 7, 5]) (by kernel_rfl) rfl (by simp [h33])) ?_
            refine AWp.ret ?_
            obtain rfl := some_inj hr
            refine fin_ret ?_
            simp
          · have hr := cond_f h33 hr
            refine AWp.skip ?_
            obtain ⟨r9, h34, hr⟩ := bind_some' hr
            refine AWp.then ⟨[⟨3, none, .lit (.string r9.1)⟩, ⟨4, none, .lit (.int .i64 0)⟩, ⟨2, none, .ptr 0 0⟩], [.blk v4.2.enc, .blk r9.2.enc, .blk v4.2.enc]⟩ (AWp.regD Try.mixed Try.tyOk hΓ (keep := [3, 4]) (dead := [70, 10, 7, 5]) [(0, 3)] [(false, []), (false, []), (true, []), (true, []), (false, []), (false, [])] (by kernel_rfl) rfl (by simp [h33, h34])) ?_
            refine AWp.ret ?_
            obtain rfl := some_inj hr
            refine fin_ret ?_
            simp

@[simp] noncomputable def gVp8Parse.S : Sp
  | [.lit (.string x0)], _ => (fun (r : Antiphonref04Desc × ByteArray × Int) => some { av := .tup [.agg [.lit (.bool (r.1.fNonRef)), .lit (.bool (r.1.fStart)), .lit (.int .i64 (r.1.fPart)), .lit (.int .i64 (r.1.fPicture)), .lit (.bool (r.1.fWide)), .lit (.int .i64 (r.1.fLevel)), .lit (.int .i64 (r.1.fLayer)), .lit (.bool (r.1.fSync)), .lit (.int .i64 (r.1.fKey))], .lit (.string (r.2.1)), .lit (.int .i64 (r.2.2))], M := none, obl := (gVp8Parse x0).isSome = true }) ((gVp8Parse x0).getD dflt)
  | _, _ => none

set_option maxHeartbeats 1000000 in
theorem gVp8Parse.ok : SpecOk Try.prog 56 gVp8Parse.S := by
  intro l M out h
  unfold gVp8Parse.S at h
  split at h
  · rename_i x0
    try dsimp only at h
    cases h
    refine callOk_of fun ho => ?_
    have hs := ho
    obtain ⟨r, hr⟩ := Option.isSome_iff_exists.1 hs
    simp only [hr, Option.getD_some]
    have q := call_frame (M := M) [] (gVp8Parse.can x0 r hr) (by simp) rfl (by intro k i hk; simp at hk)
    exact callOk_conv q trivial (by simp) (by simp [frameOut, gVp8Parse.out]) (by simp [frameOut, gVp8Parse.out])
  · cases h

@[simp] def gVp8Keyframe.out (_x0 : Antiphonref04Desc) (_x1 : ByteArray) (r : Bool) : Out := { av := .lit (.bool r), M := none }
set_option maxHeartbeats 4000000 in
set_option maxRecDepth 100000 in
theorem gVp8Keyframe.can (x0 : Antiphonref04Desc) (x1 : ByteArray) (r : Bool) (hr : gVp8Keyframe x0 x1 = some r) : CallOk Try.prog 57 [.agg [.lit (.bool x0.fNonRef), .lit (.bool x0.fStart), .lit (.int .i64 x0.fPart), .lit (.int .i64 x0.fPicture), .lit (.bool x0.fWide), .lit (.int .i64 x0.fLevel), .lit (.int .i64 x0.fLayer), .lit (.bool x0.fSync), .lit (.int .i64 x0.fKey)], .lit (.string x1)] [] (gVp8Keyframe.out x0 x1 r) := by
  unfold gVp8Keyframe at hr
  have hΓ := gamL_nil (P := Try.prog)
  refine call_of_awp Try.tyOk Try.func57 rfl (by kernel_rfl) rfl rfl (by simp) ?_
  intro _ _ _
  refine AWp.then ⟨[⟨2, none, .ptr 0 0⟩, ⟨1, none, .lit (.string x1)⟩], [.blk x0.enc]⟩ (AWp.reg Try.tyOk hΓ (keep := [2]) (dead := [0]) (by kernel_rfl) rfl (by simp)) ?_
  obtain ⟨h2, hr⟩ := need_some hr
  refine AWp.then ⟨[⟨4, none, .lit (.bool (pickB (pickB (pickB x0.fStart (eqI x0.fPart 0) false) (neS x1 ⟨#[]⟩) false) (eqI (bitsOp .and .u8 (idxS x1 0) 1) 0) false))⟩], [.blk x0.enc]⟩ (AWp.reg Try.tyOk hΓ (keep := [4]) (dead := [2, 1]) (by kernel_rfl) rfl (by simp [h2])) ?_
  refine AWp.ret ?_
  obtain rfl := some_inj hr
  refine fin_ret ?_
  simp

@[simp] noncomputable def gVp8Keyframe.S : Sp
  | [.agg e0, .lit (.string x1)], _ => some { av := .lit (.bool ((gVp8Keyframe (Antiphonref04Desc.dec e0) x1).getD dflt)), M := none, obl := WeakL e0 (Antiphonref04Desc.enc (Antiphonref04Desc.dec e0)) ∧ (gVp8Keyframe (Antiphonref04Desc.dec e0) x1).isSome = true }
  | _, _ => none

set_option maxHeartbeats 1000000 in
theorem gVp8Keyframe.ok : SpecOk Try.prog 57 gVp8Keyframe.S := by
  intro l M out h
  unfold gVp8Keyframe.S at h
  split at h
  · rename_i e0 x1
    cases h
    refine callOk_of fun ho => ?_
    obtain ⟨ox0, hs⟩ := ho
    generalize (Antiphonref04Desc.dec e0) = x0 at *
    obtain ⟨r, hr⟩ := Option.isSome_iff_exists.1 hs
    simp only [hr, Option.getD_some]
    have q := call_frame (M := M) [] (gVp8Keyframe.can x0 x1 r hr) (by simp) rfl (by intro k i hk; simp at hk)
    exact callOk_conv q trivial (by simp; exact ox0) (by simp [frameOut, gVp8Keyframe.out]) (by simp [frameOut, gVp8Keyframe.out])
  · cases h
end Go.Proofs
