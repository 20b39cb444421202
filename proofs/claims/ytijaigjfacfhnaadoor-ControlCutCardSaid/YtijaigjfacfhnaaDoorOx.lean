/- That these functions compute what their plain functions do. No condition. -/
import Derived.Test.YtijaigjfacfhnaaDoorM05
import Derived.Test.YtijaigjfacfhnaaDoorTy
namespace Go.Proofs
open Go.Ab
@[simp] def gOctetRead.out (_x0 : ByteArray) (r : OctetReader) : Out := { av := .ptr 0 0, M := some [.blk [.lit (.string r.fS), .lit (.int .i64 r.fE)]] }
def gOctetRead.fin (x0 : ByteArray) (r : OctetReader) (σ : St) : Prop := finK (gOctetRead.out x0 r) [] σ.M (resA Tryd.ty σ.A σ.M Tryd.f19.results.toList)
set_option maxHeartbeats 4000000 in
set_option maxRecDepth 100000 in
theorem gOctetRead.can (x0 : ByteArray) (r : OctetReader) (hr : gOctetRead x0 = some r) : CallOk Tryd.prog 19 [.lit (.string x0)] [] (gOctetRead.out x0 r) := by
  unfold gOctetRead at hr
  have hΓ := gamL_nil (P := Tryd.prog)
  refine call_of_awp Tryd.tyOk Tryd.func19 rfl (by kernel_rfl) rfl rfl (by simp) ?_
  intro _ _ _
  refine AWp.then ⟨[⟨0, none, .lit (.string x0)⟩], []⟩ (AWp.reg Tryd.tyOk hΓ (keep := []) (dead := []) (by kernel_rfl) rfl (by simp)) ?_
  refine AWp.then ⟨[⟨2, none, .ptr 0 0⟩], [.blk [.lit (.string x0), .lit (.int .i64 0)]]⟩ (AWp.reg Tryd.tyOk hΓ (keep := [2]) (dead := [0]) (by kernel_rfl) rfl (by simp)) ?_
  refine AWp.ret ?_
  obtain rfl := some_inj hr
  refine fin_ret ?_
  simp

@[simp] noncomputable def gOctetRead.S : Sp
  | [.lit (.string x0)], M => some { av := .ptr M.length 0, M := some (M ++ [.blk [.lit (.string (((gOctetRead x0).getD dflt).fS)), .lit (.int .i64 (((gOctetRead x0).getD dflt).fE))]]), obl := (gOctetRead x0).isSome = true }
  | _, _ => none

set_option maxHeartbeats 1000000 in
theorem gOctetRead.ok : SpecOk Tryd.prog 19 gOctetRead.S := by
  intro l M out h
  unfold gOctetRead.S at h
  split at h
  · rename_i x0
    cases h
    refine callOk_of fun ho => ?_
    have hs := ho
    obtain ⟨r, hr⟩ := Option.isSome_iff_exists.1 hs
    simp only [hr, Option.getD_some]
    have q := call_frame (M := M) [] (gOctetRead.can x0 r hr) (by simp) rfl (by intro k i hk; simp at hk)
    exact callOk_conv q trivial (by simp) (by simp [frameOut, gOctetRead.out, into]) (by simp [frameOut, gOctetRead.out, into])
  · cases h

@[simp] def gOctetReaderErr.out (_x0 : OctetReader) (r : Int) : Out := { av := .lit (.int .i64 r), M := none }
def gOctetReaderErr.fin (x0 : OctetReader) (r : Int) (σ : St) : Prop := finK (gOctetReaderErr.out x0 r) [.blk x0.enc] σ.M (resA Tryd.ty σ.A σ.M Tryd.f21.results.toList)
set_option maxHeartbeats 4000000 in
set_option maxRecDepth 100000 in
theorem gOctetReaderErr.can (x0 : OctetReader) (r : Int) (hr : gOctetReaderErr x0 = some r) : CallOk Tryd.prog 21 [.ptr 0 0] [.blk x0.enc] (gOctetReaderErr.out x0 r) := by
  unfold gOctetReaderErr at hr
  have hΓ := gamL_nil (P := Tryd.prog)
  refine call_of_awp Tryd.tyOk Tryd.func21 rfl (by kernel_rfl) rfl rfl (by simp) ?_
  intro _ _ _
  refine AWp.then ⟨[⟨0, none, .ptr 0 0⟩], [.blk x0.enc]⟩ (AWp.reg Tryd.tyOk hΓ (keep := []) (dead := []) (by kernel_rfl) rfl (by simp)) ?_
  refine AWp.then ⟨[⟨2, none, .lit (.int .i64 x0.fE)⟩], [.blk x0.enc]⟩ (AWp.reg Tryd.tyOk hΓ (keep := [2]) (dead := [0]) (by kernel_rfl) rfl (by simp)) ?_
  refine AWp.ret ?_
  obtain rfl := some_inj hr
  refine fin_ret ?_
  simp

@[simp] noncomputable def gOctetReaderErr.S : Sp
  | [.ptr i0 0], M => match M[i0]? with
    | some (.blk c0) => some { av := .lit (.int .i64 ((gOctetReaderErr (OctetReader.dec c0)).getD dflt)), M := none, obl := c0 = OctetReader.enc (OctetReader.dec c0) ∧ (gOctetReaderErr (OctetReader.dec c0)).isSome = true }
    | _ => none
  | _, _ => none

set_option maxHeartbeats 1000000 in
theorem gOctetReaderErr.ok : SpecOk Tryd.prog 21 gOctetReaderErr.S := by
  intro l M out h
  unfold gOctetReaderErr.S at h
  split at h
  · rename_i i0
    split at h
    case h_2 => cases h
    rename_i c0 hM0
    cases h
    refine callOk_of fun ho => ?_
    obtain ⟨oc0, hs⟩ := ho
    generalize (OctetReader.dec c0) = y0 at *
    subst oc0
    obtain ⟨r, hr⟩ := Option.isSome_iff_exists.1 hs
    simp only [hr, Option.getD_some]
    have q := call_frame (M := M) [i0] (gOctetReaderErr.can y0 r hr) (by simp) rfl (by intro k i hk; (cases k with | zero => (simp at hk; subst hk; simp [hM0]) | succ k => (simp at hk)))
    exact callOk_conv q trivial (by simp [into]) (by simp [frameOut, gOctetReaderErr.out]) (by simp only [frameOut, gOctetReaderErr.out, Option.getD_some, Option.getD_none]; simp [hM0, set_same])
  · cases h

@[simp] def gOctetReaderFail.out (_x0 : OctetReader) (_x1 : Int) (r : OctetReader) : Out := { av := .tup [], M := some [.blk [.lit (.string r.fS), .lit (.int .i64 r.fE)]] }
def gOctetReaderFail.fin (x0 : OctetReader) (x1 : Int) (r : OctetReader) (σ : St) : Prop := finK (gOctetReaderFail.out x0 x1 r) [.blk x0.enc] σ.M (resA Tryd.ty σ.A σ.M Tryd.f23.results.toList)
set_option maxHeartbeats 4000000 in
set_option maxRecDepth 100000 in
theorem gOctetReaderFail.can (x0 : OctetReader) (x1 : Int) (r : OctetReader) (hr : gOctetReaderFail x0 x1 = some r) : CallOk Tryd.prog 23 [.ptr 0 0, .lit (.int .i64 x1)] [.blk x0.enc] (gOctetReaderFail.out x0 x1 r) := by
  unfold gOctetReaderFail at hr
  have hΓ := gamL_nil (P := Tryd.prog)
  refine call_of_awp Tryd.tyOk Tryd.func23 rfl (by kernel_rfl) rfl rfl (by simp) ?_
  intro _ _ _
  refine AWp.then ⟨[⟨12, none, .lit (.bool (pickB (eqI x0.fE 0) (neI x1 0) false))⟩, ⟨0, none, .ptr 0 0⟩, ⟨1, none, .lit (.int .i64 x1)⟩], [.blk x0.enc]⟩ (AWp.reg Tryd.tyOk hΓ (keep := [12]) (dead := []) (by kernel_rfl) rfl (by simp)) ?_
  refine AWp.cond (b := (pickB (eqI x0.fE 0) (neI x1 0) false)) (by simp) (fun h2 => ?_) (fun h2 => ?_)
  · have hr := cond_t h2 hr
    refine AWp.last ⟨[], [.blk [.lit (.string ⟨#[]⟩), .lit (.int .i64 x1)]]⟩ (AWp.reg Tryd.tyOk hΓ (keep := []) (dead := [12, 0, 1]) (by kernel_rfl) rfl (by simp [h2])) ?_
    obtain rfl := some_inj hr
    refine fin_norm ?_
    simp
  · have hr := cond_f h2 hr
    refine AWp.skip ?_
    obtain rfl := some_inj hr
    refine fin_norm ?_
    simp

@[simp] noncomputable def gOctetReaderFail.S : Sp
  | [.ptr i0 0, .lit (.int .i64 x1)], M => match M[i0]? with
    | some (.blk c0) => some { av := .tup [], M := some (M.set i0 (.blk [.lit (.string (((gOctetReaderFail (OctetReader.dec c0) x1).getD dflt).fS)), .lit (.int .i64 (((gOctetReaderFail (OctetReader.dec c0) x1).getD dflt).fE))])), obl := c0 = OctetReader.enc (OctetReader.dec c0) ∧ (gOctetReaderFail (OctetReader.dec c0) x1).isSome = true }
    | _ => none
  | _, _ => none

set_option maxHeartbeats 1000000 in
theorem gOctetReaderFail.ok : SpecOk Tryd.prog 23 gOctetReaderFail.S := by
  intro l M out h
  unfold gOctetReaderFail.S at h
  split at h
  · rename_i i0 x1
    split at h
    case h_2 => cases h
    rename_i c0 hM0
    cases h
    refine callOk_of fun ho => ?_
    obtain ⟨oc0, hs⟩ := ho
    generalize (OctetReader.dec c0) = y0 at *
    subst oc0
    obtain ⟨r, hr⟩ := Option.isSome_iff_exists.1 hs
    simp only [hr, Option.getD_some]
    have q := call_frame (M := M) [i0] (gOctetReaderFail.can y0 x1 r hr) (by simp) rfl (by intro k i hk; (cases k with | zero => (simp at hk; subst hk; simp [hM0]) | succ k => (simp at hk)))
    exact callOk_conv q trivial (by simp [into]) (by simp [frameOut, gOctetReaderFail.out]) (by simp [frameOut, gOctetReaderFail.out])
  · cases h

@[simp] def gOctetReaderBytes.out (_x0 : OctetReader) (_x1 : Int) (r : ByteArray × OctetReader) : Out := { av := .lit (.string r.1), M := some [.blk [.lit (.string r.2.fS), .lit (.int .i64 r.2.fE)]] }
def gOctetReaderBytes.fin (x0 : OctetReader) (x1 : Int) (r : ByteArray × OctetReader) (σ : St) : Prop := finK (gOctetReaderBytes.out x0 x1 r) [.blk x0.enc] σ.M (resA Tryd.ty σ.A σ.M Tryd.f48.results.toList)
set_option maxHeartbeats 4000000 in
set_option maxRecDepth 100000 in
theorem gOctetReaderBytes.can (x0 : OctetReader) (x1 : Int) (r : ByteArray × OctetReader) (hr : gOctetReaderBytes x0 x1 = some r) : CallOk Tryd.prog 48 [.ptr 0 0, .lit (.int .i64 x1)] [.blk x0.enc] (gOctetReaderBytes.out x0 x1 r) := by
  unfold gOctetReaderBytes at hr
  have hΓ := (gamL_cons gOctetReaderFail.ok (gamL_nil) : GamOk Tryd.prog _)
  refine call_of_awp Tryd.tyOk Tryd.func48 rfl (by kernel_rfl) rfl rfl (by simp) ?_
  intro _ _ _
  refine AWp.then ⟨[⟨0, none, .ptr 0 0⟩, ⟨1, none, .lit (.int .i64 x1)⟩], [.blk x0.enc]⟩ (AWp.reg Tryd.tyOk hΓ (keep := []) (dead := []) (by kernel_rfl) rfl (by simp)) ?_
  refine AWp.seq ?_
  refine AWp.block ?_
  refine AWp.then ⟨[⟨6, none, .lit (.bool (neI x0.fE 0))⟩, ⟨0, none, .ptr 0 0⟩, ⟨1, none, .lit (.int .i64 x1)⟩], [.blk x0.enc]⟩ (AWp.reg Tryd.tyOk hΓ (keep := [6]) (dead := []) (by kernel_rfl) rfl (by simp)) ?_
  refine AWp.cond (b := (neI x0.fE 0)) (by simp) (fun h8 => ?_) (fun h8 => ?_)
  · have hr := cond_t h8 hr
    refine AWp.then ⟨[⟨4, none, .lit (.string ⟨#[]⟩)⟩], [.blk x0.enc]⟩ (AWp.reg Tryd.tyOk hΓ (keep := [4]) (dead := [6, 0, 1]) (by kernel_rfl) rfl (by simp [h8])) ?_
    refine AWp.ret ?_
    obtain rfl := some_inj hr
    refine fin_ret ?_
    simp
  · have hr := cond_f h8 hr
    refine AWp.then ⟨[⟨12, none, .lit (.bool (ltI x1 0))⟩, ⟨0, none, .ptr 0 0⟩, ⟨1, none, .lit (.int .i64 x1)⟩], [.blk x0.enc]⟩ (AWp.reg Tryd.tyOk hΓ (keep := [12]) (dead := [6]) (by kernel_rfl) rfl (by simp [h8])) ?_
    refine AWp.cond (b := (ltI x1 0)) (by simp) (fun h9 => ?_) (fun h9 => ?_)
    · have hr := cond_t h9 hr
      obtain ⟨r1, h10, hr⟩ := bind_some' hr
      refine AWp.then ⟨[], [.blk r1.enc]⟩ (AWp.reg Tryd.tyOk hΓ (keep := []) (dead := [12, 0, 1]) (by kernel_rfl) rfl (by simp [h9, h10])) ?_
      refine AWp.then ⟨[⟨4, none, .lit (.string ⟨#[]⟩)⟩], [.blk r1.enc]⟩ (AWp.reg Tryd.tyOk hΓ (keep := [4]) (dead := []) (by kernel_rfl) rfl (by simp)) ?_
      refine AWp.ret ?_
      obtain rfl := some_inj hr
      refine fin_ret ?_
      simp
    · have hr := cond_f h9 hr
      refine AWp.then ⟨[⟨17, none, .lit (.bool (ltI (lenS x0.fS) x1))⟩, ⟨0, none, .ptr 0 0⟩, ⟨1, none, .lit (.int .i64 x1)⟩], [.blk x0.enc]⟩ (AWp.reg Tryd.tyOk hΓ (keep := [17]) (dead := [12]) (by kernel_rfl) rfl (by simp [h9])) ?_
      refine AWp.cond (b := (ltI (lenS x0.fS) x1)) (by simp) (fun h11 => ?_) (fun h11 => ?_)
      · have hr := cond_t h11 hr
        obtain ⟨r2, h12, hr⟩ := bind_some' hr
        refine AWp.then ⟨[], [.blk r2.enc]⟩ (AWp.reg Tryd.tyOk hΓ (keep := []) (dead := [17, 0, 1]) (by kernel_rfl) rfl (by simp [h11, h12])) ?_
        refine AWp.then ⟨[⟨4, none, .lit (.string ⟨#[]⟩)⟩], [.blk r2.enc]⟩ (AWp.reg Tryd.tyOk hΓ (keep := [4]) (dead := []) (by kernel_rfl) rfl (by simp)) ?_
        refine AWp.ret ?_
        obtain rfl := some_inj hr
        refine fin_ret ?_
        simp
      · have hr := cond_f h11 hr
        refine AWp.skip ?_
        obtain ⟨h13, hr⟩ := need_some hr
        refine AWp.then ⟨[⟨5, none, .lit (.string (cutS x0.fS 0 x1))⟩, ⟨0, none, .ptr 0 0⟩, ⟨1, none, .lit (.int .i64 x1)⟩], [.blk x0.enc]⟩ (AWp.reg Tryd.tyOk hΓ (keep := [5]) (dead := [17]) (by kernel_rfl) rfl (by simp [h11, h13])) ?_
        obtain ⟨h14, hr⟩ := need_some hr
        refine AWp.then ⟨[⟨5, none, .lit (.string (cutS x0.fS 0 x1))⟩], [.blk [.lit (.string (cutS x0.fS x1 (lenS x0.fS))), .lit (.int .i64 x0.fE)]]⟩ (AWp.reg Tryd.tyOk hΓ (keep := []) (dead := [0, 1]) (by kernel_rfl) rfl (by simp [h14])) ?_
        refine AWp.then ⟨[⟨4, none, .lit (.string (cutS x0.fS 0 x1))⟩], [.blk [.lit (.string (cutS x0.fS x1 (lenS x0.fS))), .lit (.int .i64 x0.fE)]]⟩ (AWp.reg Tryd.tyOk hΓ (keep := [4]) (dead := [5]) (by kernel_rfl) rfl (by simp)) ?_
        refine AWp.ret ?_
        obtain rfl := some_inj hr
        refine fin_ret ?_
        simp

@[simp] noncomputable def gOctetReaderBytes.S : Sp
  | [.ptr i0 0, .lit (.int .i64 x1)], M => match M[i0]? with
    | some (.blk c0) => some { av := .lit (.string (((gOctetReaderBytes (OctetReader.dec c0) x1).getD dflt).1)), M := some (M.set i0 (.blk [.lit (.string (((gOctetReaderBytes (OctetReader.dec c0) x1).getD dflt).2.fS)), .lit (.int .i64 (((gOctetReaderBytes (OctetReader.dec c0) x1).getD dflt).2.fE))])), obl := c0 = OctetReader.enc (OctetReader.dec c0) ∧ (gOctetReaderBytes (OctetReader.dec c0) x1).isSome = true }
    | _ => none
  | _, _ => none

set_option maxHeartbeats 1000000 in
theorem gOctetReaderBytes.ok : SpecOk Tryd.prog 48 gOctetReaderBytes.S := by
  intro l M out h
  unfold gOctetReaderBytes.S at h
  split at h
  · rename_i i0 x1
    split at h
    case h_2 => cases h
    rename_i c0 hM0
    cases h
    refine callOk_of fun ho => ?_
    obtain ⟨oc0, hs⟩ := ho
    generalize (OctetReader.dec c0) = y0 at *
    subst oc0
    obtain ⟨r, hr⟩ := Option.isSome_iff_exists.1 hs
    simp only [hr, Option.getD_some]
    have q := call_frame (M := M) [i0] (gOctetReaderBytes.can y0 x1 r hr) (by simp) rfl (by intro k i hk; (cases k with | zero => (simp at hk; subst hk; simp [hM0]) | succ k => (simp at hk)))
    exact callOk_conv q trivial (by simp [into]) (by simp [frameOut, gOctetReaderBytes.out]) (by simp [frameOut, gOctetReaderBytes.out])
  · cases h

@[simp] def gOctetReaderNum.out (_x0 : OctetReader) (_x1 : Int) (r : Int × OctetReader) : Out := { av := .lit (.int .u64 r.1), M := some [.blk [.lit (.string r.2.fS), .lit (.int .i64 r.2.fE)]] }
def gOctetReaderNum.fin (x0 : OctetReader) (x1 : Int) (r : Int × OctetReader) (σ : St) : Prop := finK (gOctetReaderNum.out x0 x1 r) [.blk x0.enc] σ.M (resA Tryd.ty σ.A σ.M Tryd.f47.results.toList)
set_option maxHeartbeats 4000000 in
set_option maxRecDepth 100000 in
theorem gOctetReaderNum.can (x0 : OctetReader) (x1 : Int) (r : Int × OctetReader) (hr : gOctetReaderNum x0 x1 = some r) : CallOk Tryd.prog 47 [.ptr 0 0, .lit (.int .i64 x1)] [.blk x0.enc] (gOctetReaderNum.out x0 x1 r) := by
  unfold gOctetReaderNum at hr
  have hΓ := (gamL_cons gOctetReaderBytes.ok (gamL_nil) : GamOk Tryd.prog _)
  refine call_of_awp Tryd.tyOk Tryd.func47 rfl (by kernel_rfl) rfl rfl (by simp) ?_
  intro _ _ _
  refine AWp.then ⟨[⟨0, none, .ptr 0 0⟩, ⟨1, none, .lit (.int .i64 x1)⟩], [.blk x0.enc]⟩ (AWp.reg Tryd.tyOk hΓ (keep := []) (dead := []) (by kernel_rfl) rfl (by simp)) ?_
  refine AWp.then ⟨[⟨5, none, .lit (.int .u64 0)⟩, ⟨0, none, .ptr 0 0⟩, ⟨1, none, .lit (.int .i64 x1)⟩], [.blk x0.enc]⟩ (AWp.reg Tryd.tyOk hΓ (keep := [5]) (dead := []) (by kernel_rfl) rfl (by simp)) ?_
  refine AWp.seq ?_
  obtain ⟨r1, h5, hr⟩ := bind_some' hr
  refine AWp.then ⟨[⟨13, none, .sl ((numsOf r1.1).map (eNum .u8)) .no⟩, ⟨14, none, .lit (.int .i64 (lenL (numsOf r1.1)))⟩, ⟨15, none, .lit (.int .i64 0)⟩, ⟨5, none, .lit (.int .u64 0)⟩], [.blk r1.2.enc]⟩ (AWp.reg Tryd.tyOk hΓ (keep := [13, 14, 15]) (dead := [0, 1]) (by kernel_rfl) rfl (by simp [h5])) ?_
  refine AWp.loopE (fun (s1 : Int × Int) (γ1 : Unit) => ⟨[⟨13, none, .sl ((numsOf r1.1).map (eNum .u8)) .no⟩, ⟨14, none, .lit (.int .i64 (lenL (numsOf r1.1)))⟩, ⟨15, none, .lit (.int .i64 s1.1)⟩, ⟨5, none, .lit (.int .u64 s1.2)⟩], [.blk r1.2.enc]⟩) (fun (v1 : Int) (γ1a : Unit) => ⟨[⟨5, none, .lit (.int .u64 v1)⟩], [.blk r1.2.enc]⟩) (gOctetReaderNum.fin x0 x1) hr () 1 (by simp) (fun s1 f γ1 hr => ?_) (fun v1 γ1a σ1 m1 hr hc => ?_) (fun _ h => h)
  · unfold gOctetReaderNum.loop1 at hr
    refine AWp.then ⟨[⟨16, none, .lit (.bool (ltI s1.1 (lenL (numsOf r1.1))))⟩, ⟨13, none, .sl ((numsOf r1.1).map (eNum .u8)) .no⟩, ⟨14, none, .lit (.int .i64 (lenL (numsOf r1.1)))⟩, ⟨15, none, .lit (.int .i64 s1.1)⟩, ⟨5, none, .lit (.int .u64 s1.2)⟩], [.blk r1.2.enc]⟩ (AWp.reg Tryd.tyOk hΓ (keep := [16]) (dead := []) (by kernel_rfl) rfl (by simp)) ?_
    refine AWp.seq ?_
    refine AWp.cond (b := (ltI s1.1 (lenL (numsOf r1.1)))) (by simp) (fun h6 => ?_) (fun h6 => ?_)
    · have hr := cond_t h6 hr
      refine AWp.skip ?_
      refine AWp.seq ?_
      refine AWp.block ?_
      obtain ⟨h7, hr⟩ := need_some hr
      refine AWp.then ⟨[⟨7, none, .lit (.int .u8 (nthI (numsOf r1.1) s1.1))⟩, ⟨13, none, .sl ((numsOf r1.1).map (eNum .u8)) .no⟩, ⟨14, none, .lit (.int .i64 (lenL (numsOf r1.1)))⟩, ⟨15, none, .lit (.int .i64 s1.1)⟩, ⟨5, none, .lit (.int .u64 s1.2)⟩], [.blk r1.2.enc]⟩ (AWp.reg Tryd.tyOk hΓ (keep := [7]) (dead := [16]) (by kernel_rfl) rfl (by simp [h6, h7])) ?_
      obtain ⟨h8, hr⟩ := need_some hr
      refine AWp.last ⟨[⟨5, none, .lit (.int .u64 (bitsOp .or .u64 (shlI .u64 s1.2 8) (cvtI .u64 (nthI (numsOf r1.1) s1.1))))⟩, ⟨13, none, .sl ((numsOf r1.1).map (eNum .u8)) .no⟩, ⟨14, none, .lit (.int .i64 (lenL (numsOf r1.1)))⟩, ⟨15, none, .lit (.int .i64 s1.1)⟩], [.blk r1.2.enc]⟩ (AWp.reg Tryd.tyOk hΓ (keep := [5]) (dead := [7]) (by kernel_rfl) rfl (by simp [h8])) ?_
      refine AWp.last ⟨[⟨15, none, .lit (.int .i64 (addI .i64 s1.1 1))⟩, ⟨5, none, .lit (.int .u64 (bitsOp .or .u64 (shlI .u64 s1.2 8) (cvtI .u64 (nthI (numsOf r1.1) s1.1))))⟩, ⟨13, none, .sl ((numsOf r1.1).map (eNum .u8)) .no⟩, ⟨14, none, .lit (.int .i64 (lenL (numsOf r1.1)))⟩], [.blk r1.2.enc]⟩ (AWp.reg Tryd.tyOk hΓ (keep := [15]) (dead := []) (by kernel_rfl) rfl (by simp)) ?_
      obtain rfl := some_inj hr
      exact round_go () 1 (by first | (simp; done) | simp [h5, h6, h7, h8])
    · have hr := cond_f h6 hr
      refine AWp.exit ?_
      obtain rfl := some_inj hr
      exact round_out () 1 (by first | (simp; done) | simp [h5, h6])
  · refine AWp.conv hc ?_
    refine AWp.then ⟨[⟨4, none, .lit (.int .u64 v1)⟩], [.blk r1.2.enc]⟩ (AWp.reg Tryd.tyOk hΓ (keep := [4]) (dead := [5]) (by kernel_rfl) rfl (by simp)) ?_
    refine AWp.ret ?_
    obtain rfl := some_inj hr
    refine fin_ret ?_
    simp

@[simp] noncomputable def gOctetReaderNum.S : Sp
  | [.ptr i0 0, .lit (.int .i64 x1)], M => match M[i0]? with
    | some (.blk c0) => some { av := .lit (.int .u64 (((gOctetReaderNum (OctetReader.dec c0) x1).getD dflt).1)), M := some (M.set i0 (.blk [.lit (.string (((gOctetReaderNum (OctetReader.dec c0) x1).getD dflt).2.fS)), .lit (.int .i64 (((gOctetReaderNum (OctetReader.dec c0) x1).getD dflt).2.fE))])), obl := c0 = OctetReader.enc (OctetReader.dec c0) ∧ (gOctetReaderNum (OctetReader.dec c0) x1).isSome = true }
    | _ => none
  | _, _ => none

set_option maxHeartbeats 1000000 in
theorem gOctetReaderNum.ok : SpecOk Tryd.prog 47 gOctetReaderNum.S := by
  intro l M out h
  unfold gOctetReaderNum.S at h
  split at h
  · rename_i i0 x1
    split at h
    case h_2 => cases h
    rename_i c0 hM0
    cases h
    refine callOk_of fun ho => ?_
    obtain ⟨oc0, hs⟩ := ho
    generalize (OctetReader.dec c0) = y0 at *
    subst oc0
    obtain ⟨r, hr⟩ := Option.isSome_iff_exists.1 hs
    simp only [hr, Option.getD_some]
    have q := call_frame (M := M) [i0] (gOctetReaderNum.can y0 x1 r hr) (by simp) rfl (by intro k i hk; (cases k with | zero => (simp at hk; subst hk; simp [hM0]) | succ k => (simp at hk)))
    exact callOk_conv q trivial (by simp [into]) (by simp [frameOut, gOctetReaderNum.out]) (by simp [frameOut, gOctetReaderNum.out])
  · cases h

@[simp] def gOctetReaderU8.out (_x0 : OctetReader) (r : Int × OctetReader) : Out := { av := .lit (.int .u8 r.1), M := some [.blk [.lit (.string r.2.fS), .lit (.int .i64 r.2.fE)]] }
def gOctetReaderU8.fin (x0 : OctetReader) (r : Int × OctetReader) (σ : St) : Prop := finK (gOctetReaderU8.out x0 r) [.blk x0.enc] σ.M (resA Tryd.ty σ.A σ.M Tryd.f20.results.toList)
set_option maxHeartbeats 4000000 in
set_option maxRecDepth 100000 in
theorem gOctetReaderU8.can (x0 : OctetReader) (r : Int × OctetReader) (hr : gOctetReaderU8 x0 = some r) : CallOk Tryd.prog 20 [.ptr 0 0] [.blk x0.enc] (gOctetReaderU8.out x0 r) := by
  unfold gOctetReaderU8 at hr
  have hΓ := (gamL_cons gOctetReaderNum.ok (gamL_nil) : GamOk Tryd.prog _)
  refine call_of_awp Tryd.tyOk Tryd.func20 rfl (by kernel_rfl) rfl rfl (by simp) ?_
  intro _ _ _
  refine AWp.then ⟨[⟨0, none, .ptr 0 0⟩], [.blk x0.enc]⟩ (AWp.reg Tryd.tyOk hΓ (keep := []) (dead := []) (by kernel_rfl) rfl (by simp)) ?_
  obtain ⟨r1, h2, hr⟩ := bind_some' hr
  refine AWp.then ⟨[⟨2, none, .lit (.int .u8 (cvtI .u8 r1.1))⟩], [.blk r1.2.enc]⟩ (AWp.reg Tryd.tyOk hΓ (keep := [2]) (dead := [0]) (by kernel_rfl) rfl (by simp [h2])) ?_
  refine AWp.ret ?_
  obtain rfl := some_inj hr
  refine fin_ret ?_
  simp

@[simp] noncomputable def gOctetReaderU8.S : Sp
  | [.ptr i0 0], M => match M[i0]? with
    | some (.blk c0) => some { av := .lit (.int .u8 (((gOctetReaderU8 (OctetReader.dec c0)).getD dflt).1)), M := some (M.set i0 (.blk [.lit (.string (((gOctetReaderU8 (OctetReader.dec c0)).getD dflt).2.fS)), .lit (.int .i64 (((gOctetReaderU8 (OctetReader.dec c0)).getD dflt).2.fE))])), obl := c0 = OctetReader.enc (OctetReader.dec c0) ∧ (gOctetReaderU8 (OctetReader.dec c0)).isSome = true }
    | _ => none
  | _, _ => none

set_option maxHeartbeats 1000000 in
theorem gOctetReaderU8.ok : SpecOk Tryd.prog 20 gOctetReaderU8.S := by
  intro l M out h
  unfold gOctetReaderU8.S at h
  split at h
  · rename_i i0
    split at h
    case h_2 => cases h
    rename_i c0 hM0
    cases h
    refine callOk_of fun ho => ?_
    obtain ⟨oc0, hs⟩ := ho
    generalize (OctetReader.dec c0) = y0 at *
    subst oc0
    obtain ⟨r, hr⟩ := Option.isSome_iff_exists.1 hs
    simp only [hr, Option.getD_some]
    have q := call_frame (M := M) [i0] (gOctetReaderU8.can y0 r hr) (by simp) rfl (by intro k i hk; (cases k with | zero => (simp at hk; subst hk; simp [hM0]) | succ k => (simp at hk)))
    exact callOk_conv q trivial (by simp [into]) (by simp [frameOut, gOctetReaderU8.out]) (by simp [frameOut, gOctetReaderU8.out])
  · cases h

@[simp] def gOctetReaderU16.out (_x0 : OctetReader) (r : Int × OctetReader) : Out := { av := .lit (.int .u16 r.1), M := some [.blk [.lit (.string r.2.fS), .lit (.int .i64 r.2.fE)]] }
def gOctetReaderU16.fin (x0 : OctetReader) (r : Int × OctetReader) (σ : St) : Prop := finK (gOctetReaderU16.out x0 r) [.blk x0.enc] σ.M (resA Tryd.ty σ.A σ.M Tryd.f49.results.toList)
set_option maxHeartbeats 4000000 in
set_option maxRecDepth 100000 in
theorem gOctetReaderU16.can (x0 : OctetReader) (r : Int × OctetReader) (hr : gOctetReaderU16 x0 = some r) : CallOk Tryd.prog 49 [.ptr 0 0] [.blk x0.enc] (gOctetReaderU16.out x0 r) := by
  unfold gOctetReaderU16 at hr
  have hΓ := (gamL_cons gOctetReaderNum.ok (gamL_nil) : GamOk Tryd.prog _)
  refine call_of_awp Tryd.tyOk Tryd.func49 rfl (by kernel_rfl) rfl rfl (by simp) ?_
  intro _ _ _
  refine AWp.then ⟨[⟨0, none, .ptr 0 0⟩], [.blk x0.enc]⟩ (AWp.reg Tryd.tyOk hΓ (keep := []) (dead := []) (by kernel_rfl) rfl (by simp)) ?_
  obtain ⟨r1, h2, hr⟩ := bind_some' hr
  refine AWp.then ⟨[⟨2, none, .lit (.int .u16 (cvtI .u16 r1.1))⟩], [.blk r1.2.enc]⟩ (AWp.reg Tryd.tyOk hΓ (keep := [2]) (dead := [0]) (by kernel_rfl) rfl (by simp [h2])) ?_
  refine AWp.ret ?_
  obtain rfl := some_inj hr
  refine fin_ret ?_
  simp

@[simp] noncomputable def gOctetReaderU16.S : Sp
  | [.ptr i0 0], M => match M[i0]? with
    | some (.blk c0) => some { av := .lit (.int .u16 (((gOctetReaderU16 (OctetReader.dec c0)).getD dflt).1)), M := some (M.set i0 (.blk [.lit (.string (((gOctetReaderU16 (OctetReader.dec c0)).getD dflt).2.fS)), .lit (.int .i64 (((gOctetReaderU16 (OctetReader.dec c0)).getD dflt).2.fE))])), obl := c0 = OctetReader.enc (OctetReader.dec c0) ∧ (gOctetReaderU16 (OctetReader.dec c0)).isSome = true }
    | _ => none
  | _, _ => none

set_option maxHeartbeats 1000000 in
theorem gOctetReaderU16.ok : SpecOk Tryd.prog 49 gOctetReaderU16.S := by
  intro l M out h
  unfold gOctetReaderU16.S at h
  split at h
  · rename_i i0
    split at h
    case h_2 => cases h
    rename_i c0 hM0
    cases h
    refine callOk_of fun ho => ?_
    obtain ⟨oc0, hs⟩ := ho
    generalize (OctetReader.dec c0) = y0 at *
    subst oc0
    obtain ⟨r, hr⟩ := Option.isSome_iff_exists.1 hs
    simp only [hr, Option.getD_some]
    have q := call_frame (M := M) [i0] (gOctetReaderU16.can y0 r hr) (by simp) rfl (by intro k i hk; (cases k with | zero => (simp at hk; subst hk; simp [hM0]) | succ k => (simp at hk)))
    exact callOk_conv q trivial (by simp [into]) (by simp [frameOut, gOctetReaderU16.out]) (by simp [frameOut, gOctetReaderU16.out])
  · cases h

@[simp] def gOctetReaderU32.out (_x0 : OctetReader) (r : Int × OctetReader) : Out := { av := .lit (.int .u32 r.1), M := some [.blk [.lit (.string r.2.fS), .lit (.int .i64 r.2.fE)]] }
def gOctetReaderU32.fin (x0 : OctetReader) (r : Int × OctetReader) (σ : St) : Prop := finK (gOctetReaderU32.out x0 r) [.blk x0.enc] σ.M (resA Tryd.ty σ.A σ.M Tryd.f51.results.toList)
set_option maxHeartbeats 4000000 in
set_option maxRecDepth 100000 in
theorem gOctetReaderU32.can (x0 : OctetReader) (r : Int × OctetReader) (hr : gOctetReaderU32 x0 = some r) : CallOk Tryd.prog 51 [.ptr 0 0] [.blk x0.enc] (gOctetReaderU32.out x0 r) := by
  unfold gOctetReaderU32 at hr
  have hΓ := (gamL_cons gOctetReaderNum.ok (gamL_nil) : GamOk Tryd.prog _)
  refine call_of_awp Tryd.tyOk Tryd.func51 rfl (by kernel_rfl) rfl rfl (by simp) ?_
  intro _ _ _
  refine AWp.then ⟨[⟨0, none, .ptr 0 0⟩], [.blk x0.enc]⟩ (AWp.reg Tryd.tyOk hΓ (keep := []) (dead := []) (by kernel_rfl) rfl (by simp)) ?_
  obtain ⟨r1, h2, hr⟩ := bind_some' hr
  refine AWp.then ⟨[⟨2, none, .lit (.int .u32 (cvtI .u32 r1.1))⟩], [.blk r1.2.enc]⟩ (AWp.reg Tryd.tyOk hΓ (keep := [2]) (dead := [0]) (by kernel_rfl) rfl (by simp [h2])) ?_
  refine AWp.ret ?_
  obtain rfl := some_inj hr
  refine fin_ret ?_
  simp

@[simp] noncomputable def gOctetReaderU32.S : Sp
  | [.ptr i0 0], M => match M[i0]? with
    | some (.blk c0) => some { av := .lit (.int .u32 (((gOctetReaderU32 (OctetReader.dec c0)).getD dflt).1)), M := some (M.set i0 (.blk [.lit (.string (((gOctetReaderU32 (OctetReader.dec c0)).getD dflt).2.fS)), .lit (.int .i64 (((gOctetReaderU32 (OctetReader.dec c0)).getD dflt).2.fE))])), obl := c0 = OctetReader.enc (OctetReader.dec c0) ∧ (gOctetReaderU32 (OctetReader.dec c0)).isSome = true }
    | _ => none
  | _, _ => none

set_option maxHeartbeats 1000000 in
theorem gOctetReaderU32.ok : SpecOk Tryd.prog 51 gOctetReaderU32.S := by
  intro l M out h
  unfold gOctetReaderU32.S at h
  split at h
  · rename_i i0
    split at h
    case h_2 => cases h
    rename_i c0 hM0
    cases h
    refine callOk_of fun ho => ?_
    obtain ⟨oc0, hs⟩ := ho
    generalize (OctetReader.dec c0) = y0 at *
    subst oc0
    obtain ⟨r, hr⟩ := Option.isSome_iff_exists.1 hs
    simp only [hr, Option.getD_some]
    have q := call_frame (M := M) [i0] (gOctetReaderU32.can y0 r hr) (by simp) rfl (by intro k i hk; (cases k with | zero => (simp at hk; subst hk; simp [hM0]) | succ k => (simp at hk)))
    exact callOk_conv q trivial (by simp [into]) (by simp [frameOut, gOctetReaderU32.out]) (by simp [frameOut, gOctetReaderU32.out])
  · cases h

@[simp] def gOctetReaderEnd.out (_x0 : OctetReader) (r : Int × OctetReader) : Out := { av := .lit (.int .i64 r.1), M := some [.blk [.lit (.string r.2.fS), .lit (.int .i64 r.2.fE)]] }
def gOctetReaderEnd.fin (x0 : OctetReader) (r : Int × OctetReader) (σ : St) : Prop := finK (gOctetReaderEnd.out x0 r) [.blk x0.enc] σ.M (resA Tryd.ty σ.A σ.M Tryd.f25.results.toList)
set_option maxHeartbeats 4000000 in
set_option maxRecDepth 100000 in
theorem gOctetReaderEnd.can (x0 : OctetReader) (r : Int × OctetReader) (hr : gOctetReaderEnd x0 = some r) : CallOk Tryd.prog 25 [.ptr 0 0] [.blk x0.enc] (gOctetReaderEnd.out x0 r) := by
  unfold gOctetReaderEnd at hr
  have hΓ := (gamL_cons gOctetReaderFail.ok (gamL_nil) : GamOk Tryd.prog _)
  refine call_of_awp Tryd.tyOk Tryd.func25 rfl (by kernel_rfl) rfl rfl (by simp) ?_
  intro _ _ _
  refine AWp.then ⟨[⟨0, none, .ptr 0 0⟩], [.blk x0.enc]⟩ (AWp.reg Tryd.tyOk hΓ (keep := []) (dead := []) (by kernel_rfl) rfl (by simp)) ?_
  refine AWp.meetF (fun (v1 : OctetReader) (γ1 : Unit) => ⟨[⟨0, none, .ptr 0 0⟩], [.blk v1.enc]⟩) (gOctetReaderEnd.fin x0) hr (fun f hr => ?_) (fun v1 γ1 hr => ?_) (fun _ h => h)
  · refine AWp.then ⟨[⟨7, none, .lit (.bool (neS x0.fS ⟨#[]⟩))⟩, ⟨0, none, .ptr 0 0⟩], [.blk x0.enc]⟩ (AWp.reg Tryd.tyOk hΓ (keep := [7]) (dead := []) (by kernel_rfl) rfl (by simp)) ?_
    refine AWp.cond (b := (neS x0.fS ⟨#[]⟩)) (by simp) (fun h3 => ?_) (fun h3 => ?_)
    · have hr := cond_t h3 hr
      obtain ⟨r1, h4, hr⟩ := bind_some' hr
      refine AWp.last ⟨[⟨0, none, .ptr 0 0⟩], [.blk r1.enc]⟩ (AWp.reg Tryd.tyOk hΓ (keep := []) (dead := [7]) (by kernel_rfl) rfl (by simp [h3, h4])) ?_
      obtain rfl := some_inj hr
      exact meet_go () 1 (by first | (simp; done) | simp [h3, h4])
    · have hr := cond_f h3 hr
      refine AWp.skip ?_
      obtain rfl := some_inj hr
      exact meet_go () 1 (by first | (simp; done) | simp [h3])
  · refine AWp.then ⟨[⟨2, none, .lit (.int .i64 v1.fE)⟩], [.blk v1.enc]⟩ (AWp.reg Tryd.tyOk hΓ (keep := [2]) (dead := [0]) (by kernel_rfl) rfl (by simp)) ?_
    refine AWp.ret ?_
    obtain rfl := some_inj hr
    refine fin_ret ?_
    simp

@[simp] noncomputable def gOctetReaderEnd.S : Sp
  | [.ptr i0 0], M => match M[i0]? with
    | some (.blk c0) => some { av := .lit (.int .i64 (((gOctetReaderEnd (OctetReader.dec c0)).getD dflt).1)), M := some (M.set i0 (.blk [.lit (.string (((gOctetReaderEnd (OctetReader.dec c0)).getD dflt).2.fS)), .lit (.int .i64 (((gOctetReaderEnd (OctetReader.dec c0)).getD dflt).2.fE))])), obl := c0 = OctetReader.enc (OctetReader.dec c0) ∧ (gOctetReaderEnd (OctetReader.dec c0)).isSome = true }
    | _ => none
  | _, _ => none

set_option maxHeartbeats 1000000 in
theorem gOctetReaderEnd.ok : SpecOk Tryd.prog 25 gOctetReaderEnd.S := by
  intro l M out h
  unfold gOctetReaderEnd.S at h
  split at h
  · rename_i i0
    split at h
    case h_2 => cases h
    rename_i c0 hM0
    cases h
    refine callOk_of fun ho => ?_
    obtain ⟨oc0, hs⟩ := ho
    generalize (OctetReader.dec c0) = y0 at *
    subst oc0
    obtain ⟨r, hr⟩ := Option.isSome_iff_exists.1 hs
    simp only [hr, Option.getD_some]
    have q := call_frame (M := M) [i0] (gOctetReaderEnd.can y0 r hr) (by simp) rfl (by intro k i hk; (cases k with | zero => (simp at hk; subst hk; simp [hM0]) | succ k => (simp at hk)))
    exact callOk_conv q trivial (by simp [into]) (by simp [frameOut, gOctetReaderEnd.out]) (by simp [frameOut, gOctetReaderEnd.out])
  · cases h
end Go.Proofs
