/- That these functions compute what their plain functions do. No condition. -/
import Derived.Test.YtnoeflijefijcaaM04
import Derived.Test.YtnoeflijefijcaaTy
namespace Go.Proofs
open Go.Ab
@[simp] def gCmpIsNaNInt.out (_x0 : Int) (r : Bool) : Out := { av := .lit (.bool r), M := none }
set_option maxHeartbeats 4000000 in
set_option maxRecDepth 100000 in
theorem gCmpIsNaNInt.can (x0 : Int) (r : Bool) (hr : gCmpIsNaNInt x0 = some r) : CallOk Try.prog 100 [.lit (.int .i64 x0)] [] (gCmpIsNaNInt.out x0 r) := by
  unfold gCmpIsNaNInt at hr
  have hΓ := gamL_nil (P := Try.prog)
  refine call_of_awp Try.tyOk Try.func100 rfl (by kernel_rfl) rfl rfl (by simp) ?_
  intro _ _ _
  refine AWp.then ⟨[⟨0, none, .lit (.int .i64 x0)⟩], []⟩ (AWp.reg Try.tyOk hΓ (keep := []) (dead := []) (by kernel_rfl) rfl (by simp)) ?_
  refine AWp.then ⟨[⟨2, none, .lit (.bool (neI x0 x0))⟩], []⟩ (AWp.reg Try.tyOk hΓ (keep := [2]) (dead := [0]) (by kernel_rfl) rfl (by simp)) ?_
  refine AWp.ret ?_
  obtain rfl := some_inj hr
  refine fin_ret ?_
  simp

@[simp] noncomputable def gCmpIsNaNInt.S : Sp
  | [.lit (.int .i64 x0)], _ => some { av := .lit (.bool ((gCmpIsNaNInt x0).getD dflt)), M := none, obl := (gCmpIsNaNInt x0).isSome = true }
  | _, _ => none

set_option maxHeartbeats 1000000 in
theorem gCmpIsNaNInt.ok : SpecOk Try.prog 100 gCmpIsNaNInt.S := by
  intro l M out h
  unfold gCmpIsNaNInt.S at h
  split at h
  · rename_i x0
    cases h
    refine callOk_of fun ho => ?_
    have hs := ho
    obtain ⟨r, hr⟩ := Option.isSome_iff_exists.1 hs
    simp only [hr, Option.getD_some]
    have q := call_frame (M := M) [] (gCmpIsNaNInt.can x0 r hr) (by simp) rfl (by intro k i hk; simp at hk)
    exact callOk_conv q trivial (by simp) (by simp [frameOut, gCmpIsNaNInt.out]) (by simp [frameOut, gCmpIsNaNInt.out])
  · cases h

@[simp] def gCmpLessInt.out (_x0 : Int) (_x1 : Int) (r : Bool) : Out := { av := .lit (.bool r), M := none }
set_option maxHeartbeats 4000000 in
set_option maxRecDepth 100000 in
theorem gCmpLessInt.can (x0 : Int) (x1 : Int) (r : Bool) (hr : gCmpLessInt x0 x1 = some r) : CallOk Try.prog 88 [.lit (.int .i64 x0), .lit (.int .i64 x1)] [] (gCmpLessInt.out x0 x1 r) := by
  unfold gCmpLessInt at hr
  have hΓ := (gamL_cons gCmpIsNaNInt.ok (gamL_nil) : GamOk Try.prog _)
  refine call_of_awp Try.tyOk Try.func88 rfl (by kernel_rfl) rfl rfl (by simp) ?_
  intro _ _ _
  refine AWp.then ⟨[⟨0, none, .lit (.int .i64 x0)⟩, ⟨1, none, .lit (.int .i64 x1)⟩], []⟩ (AWp.reg Try.tyOk hΓ (keep := []) (dead := []) (by kernel_rfl) rfl (by simp)) ?_
  obtain ⟨r1, h3, hr⟩ := bind_some' hr
  obtain ⟨h4, hr⟩ := need_some hr
  refine AWp.then ⟨[⟨4, none, .lit (.bool (pickB (pickB r1 (notB ((gCmpIsNaNInt x1).getD dflt)) false) true (ltI x0 x1)))⟩], []⟩ (AWp.reg Try.tyOk hΓ (keep := [4]) (dead := [0, 1]) (by kernel_rfl) rfl (by simp [h3, h4])) ?_
  refine AWp.ret ?_
  obtain rfl := some_inj hr
  refine fin_ret ?_
  simp

@[simp] noncomputable def gCmpLessInt.S : Sp
  | [.lit (.int .i64 x0), .lit (.int .i64 x1)], _ => some { av := .lit (.bool ((gCmpLessInt x0 x1).getD dflt)), M := none, obl := (gCmpLessInt x0 x1).isSome = true }
  | _, _ => none

set_option maxHeartbeats 1000000 in
theorem gCmpLessInt.ok : SpecOk Try.prog 88 gCmpLessInt.S := by
  intro l M out h
  unfold gCmpLessInt.S at h
  split at h
  · rename_i x0 x1
    cases h
    refine callOk_of fun ho => ?_
    have hs := ho
    obtain ⟨r, hr⟩ := Option.isSome_iff_exists.1 hs
    simp only [hr, Option.getD_some]
    have q := call_frame (M := M) [] (gCmpLessInt.can x0 x1 r hr) (by simp) rfl (by intro k i hk; simp at hk)
    exact callOk_conv q trivial (by simp) (by simp [frameOut, gCmpLessInt.out]) (by simp [frameOut, gCmpLessInt.out])
  · cases h

@[simp] def gSlicesIsNaNInt.out (_x0 : Int) (r : Bool) : Out := { av := .lit (.bool r), M := none }
set_option maxHeartbeats 4000000 in
set_option maxRecDepth 100000 in
theorem gSlicesIsNaNInt.can (x0 : Int) (r : Bool) (hr : gSlicesIsNaNInt x0 = some r) : CallOk Try.prog 101 [.lit (.int .i64 x0)] [] (gSlicesIsNaNInt.out x0 r) := by
  unfold gSlicesIsNaNInt at hr
  have hΓ := gamL_nil (P := Try.prog)
  refine call_of_awp Try.tyOk Try.func101 rfl (by kernel_rfl) rfl rfl (by simp) ?_
  intro _ _ _
  refine AWp.then ⟨[⟨0, none, .lit (.int .i64 x0)⟩], []⟩ (AWp.reg Try.tyOk hΓ (keep := []) (dead := []) (by kernel_rfl) rfl (by simp)) ?_
  refine AWp.then ⟨[⟨2, none, .lit (.bool (neI x0 x0))⟩], []⟩ (AWp.reg Try.tyOk hΓ (keep := [2]) (dead := [0]) (by kernel_rfl) rfl (by simp)) ?_
  refine AWp.ret ?_
  obtain rfl := some_inj hr
  refine fin_ret ?_
  simp

@[simp] noncomputable def gSlicesIsNaNInt.S : Sp
  | [.lit (.int .i64 x0)], _ => some { av := .lit (.bool ((gSlicesIsNaNInt x0).getD dflt)), M := none, obl := (gSlicesIsNaNInt x0).isSome = true }
  | _, _ => none

set_option maxHeartbeats 1000000 in
theorem gSlicesIsNaNInt.ok : SpecOk Try.prog 101 gSlicesIsNaNInt.S := by
  intro l M out h
  unfold gSlicesIsNaNInt.S at h
  split at h
  · rename_i x0
    cases h
    refine callOk_of fun ho => ?_
    have hs := ho
    obtain ⟨r, hr⟩ := Option.isSome_iff_exists.1 hs
    simp only [hr, Option.getD_some]
    have q := call_frame (M := M) [] (gSlicesIsNaNInt.can x0 r hr) (by simp) rfl (by intro k i hk; simp at hk)
    exact callOk_conv q trivial (by simp) (by simp [frameOut, gSlicesIsNaNInt.out]) (by simp [frameOut, gSlicesIsNaNInt.out])
  · cases h

@[simp] def gSlicesBinarySearchIntInt.out (_x0 : List Int) (_x1 : Int) (r : Int × Bool) : Out := { av := .tup [.lit (.int .i64 r.1), .lit (.bool r.2)], M := none }
def gSlicesBinarySearchIntInt.fin (x0 : List Int) (x1 : Int) (r : Int × Bool) (σ : St) : Prop := finK (gSlicesBinarySearchIntInt.out x0 x1 r) [] σ.M (resA Try.ty σ.A σ.M Try.f94.results.toList)
set_option maxHeartbeats 4000000 in
set_option maxRecDepth 100000 in
theorem gSlicesBinarySearchIntInt.can (x0 : List Int) (x1 : Int) (r : Int × Bool) (hr : gSlicesBinarySearchIntInt x0 x1 = some r) : CallOk Try.prog 94 [.sl (x0.map (eNum .i64)) .no, .lit (.int .i64 x1)] [] (gSlicesBinarySearchIntInt.out x0 x1 r) := by
  unfold gSlicesBinarySearchIntInt at hr
  have hΓ := (gamL_cons gCmpLessInt.ok (gamL_cons gSlicesIsNaNInt.ok (gamL_nil)) : GamOk Try.prog _)
  refine call_of_awp Try.tyOk Try.func94 rfl (by kernel_rfl) rfl rfl (by simp) ?_
  intro _ _ _
  refine AWp.then ⟨[⟨0, none, .sl (x0.map (eNum .i64)) .no⟩, ⟨1, none, .lit (.int .i64 x1)⟩], []⟩ (AWp.reg Try.tyOk hΓ (keep := []) (dead := []) (by kernel_rfl) rfl (by simp)) ?_
  refine AWp.then ⟨[⟨6, none, .lit (.int .i64 (lenL x0))⟩, ⟨0, none, .sl (x0.map (eNum .i64)) .no⟩, ⟨1, none, .lit (.int .i64 x1)⟩], []⟩ (AWp.reg Try.tyOk hΓ (keep := [6]) (dead := []) (by kernel_rfl) rfl (by simp)) ?_
  refine AWp.then ⟨[⟨7, none, .lit (.int .i64 0)⟩, ⟨8, none, .lit (.int .i64 (lenL x0))⟩, ⟨6, none, .lit (.int .i64 (lenL x0))⟩, ⟨0, none, .sl (x0.map (eNum .i64)) .no⟩, ⟨1, none, .lit (.int .i64 x1)⟩], []⟩ (AWp.reg Try.tyOk hΓ (keep := [7, 8]) (dead := []) (by kernel_rfl) rfl (by simp)) ?_
  refine AWp.loopB (fun (s1 : Int × Int) (γ1 : Unit) => ⟨[⟨7, none, .lit (.int .i64 s1.1)⟩, ⟨8, none, .lit (.int .i64 s1.2)⟩, ⟨6, none, .lit (.int .i64 (lenL x0))⟩, ⟨0, none, .sl (x0.map (eNum .i64)) .no⟩, ⟨1, none, .lit (.int .i64 x1)⟩], []⟩) (fun (v1 : Int) (γ1a : Unit) => ⟨[⟨7, none, .lit (.int .i64 v1)⟩, ⟨6, none, .lit (.int .i64 (lenL x0))⟩, ⟨0, none, .sl (x0.map (eNum .i64)) .no⟩, ⟨1, none, .lit (.int .i64 x1)⟩], []⟩) (gSlicesBinarySearchIntInt.fin x0 x1) hr () 0 (by simp) (fun s1 f γ1 hr => ?_) (fun v1 γ1a hr => ?_) (fun _ h => h)
  · unfold gSlicesBinarySearchIntInt.loop1 at hr
    refine AWp.seq ?_
    refine AWp.then ⟨[⟨15, none, .lit (.bool (ltI s1.1 s1.2))⟩, ⟨7, none, .lit (.int .i64 s1.1)⟩, ⟨8, none, .lit (.int .i64 s1.2)⟩, ⟨6, none, .lit (.int .i64 (lenL x0))⟩, ⟨0, none, .sl (x0.map (eNum .i64)) .no⟩, ⟨1, none, .lit (.int .i64 x1)⟩], []⟩ (AWp.reg Try.tyOk hΓ (keep := [15]) (dead := []) (by kernel_rfl) rfl (by simp)) ?_
    refine AWp.cond (b := (ltI s1.1 s1.2)) (by simp) (fun h10 => ?_) (fun h10 => ?_)
    · have hr := cond_t h10 hr
      refine AWp.skip ?_
      refine AWp.block ?_
      obtain ⟨h11, hr⟩ := need_some hr
      refine AWp.then ⟨[⟨9, none, .lit (.int .i64 (cvtI .i64 (shrI .u64 (cvtI .u64 (addI .i64 s1.1 s1.2)) 1)))⟩, ⟨7, none, .lit (.int .i64 s1.1)⟩, ⟨8, none, .lit (.int .i64 s1.2)⟩, ⟨6, none, .lit (.int .i64 (lenL x0))⟩, ⟨0, none, .sl (x0.map (eNum .i64)) .no⟩, ⟨1, none, .lit (.int .i64 x1)⟩], []⟩ (AWp.reg Try.tyOk hΓ (keep := [9]) (dead := [15]) (by kernel_rfl) rfl (by simp [h10, h11])) ?_
      obtain ⟨h12, hr⟩ := need_some hr
      obtain ⟨r1, h13, hr⟩ := bind_some' hr
      refine AWp.then ⟨[⟨27, none, .lit (.bool r1)⟩, ⟨9, none, .lit (.int .i64 (cvtI .i64 (shrI .u64 (cvtI .u64 (addI .i64 s1.1 s1.2)) 1)))⟩, ⟨7, none, .lit (.int .i64 s1.1)⟩, ⟨8, none, .lit (.int .i64 s1.2)⟩, ⟨6, none, .lit (.int .i64 (lenL x0))⟩, ⟨0, none, .sl (x0.map (eNum .i64)) .no⟩, ⟨1, none, .lit (.int .i64 x1)⟩], []⟩ (AWp.reg Try.tyOk hΓ (keep := [27]) (dead := []) (by kernel_rfl) rfl (by simp [h12, h13])) ?_
      refine AWp.cond (b := r1) (by simp) (fun h14 => ?_) (fun h14 => ?_)
      · have hr := cond_t h14 hr
        refine AWp.last ⟨[⟨7, none, .lit (.int .i64 (addI .i64 (cvtI .i64 (shrI .u64 (cvtI .u64 (addI .i64 s1.1 s1.2)) 1)) 1))⟩, ⟨8, none, .lit (.int .i64 s1.2)⟩, ⟨6, none, .lit (.int .i64 (lenL x0))⟩, ⟨0, none, .sl (x0.map (eNum .i64)) .no⟩, ⟨1, none, .lit (.int .i64 x1)⟩], []⟩ (AWp.reg Try.tyOk hΓ (keep := [7]) (dead := [27, 9]) (by kernel_rfl) rfl (by simp [h14])) ?_
        obtain rfl := some_inj hr
        exact round_go () 0 (by first | (simp; done) | simp [h10, h11, h12, h13, h14])
      · have hr := cond_f h14 hr
        refine AWp.last ⟨[⟨8, none, .lit (.int .i64 (cvtI .i64 (shrI .u64 (cvtI .u64 (addI .i64 s1.1 s1.2)) 1)))⟩, ⟨7, none, .lit (.int .i64 s1.1)⟩, ⟨6, none, .lit (.int .i64 (lenL x0))⟩, ⟨0, none, .sl (x0.map (eNum .i64)) .no⟩, ⟨1, none, .lit (.int .i64 x1)⟩], []⟩ (AWp.reg Try.tyOk hΓ (keep := [8]) (dead := [27, 9]) (by kernel_rfl) rfl (by simp [h14])) ?_
        obtain rfl := some_inj hr
        exact round_go () 0 (by first | (simp; done) | simp [h10, h11, h12, h13, h14])
    · have hr := cond_f h10 hr
      refine AWp.exit ?_
      obtain rfl := some_inj hr
      exact round_out () 0 (by first | (simp; done) | simp [h10])
  · obtain ⟨h15, hr⟩ := need_some hr
    obtain ⟨h16, hr⟩ := need_some hr
    obtain ⟨h17, hr⟩ := need_some hr
    obtain ⟨h18, hr⟩ := need_some hr
    refine AWp.then ⟨[⟨4, none, .lit (.int .i64 v1)⟩, ⟨5, none, .lit (.bool (pickB (ltI v1 (lenL x0)) (pickB (eqI (nthI x0 v1) x1) true (pickB ((gSlicesIsNaNInt (nthI x0 v1)).getD dflt) ((gSlicesIsNaNInt x1).getD dflt) false)) false))⟩], []⟩ (AWp.reg Try.tyOk hΓ (keep := [4, 5]) (dead := [7, 6, 0, 1]) (by kernel_rfl) rfl (by simp [h15, h17, h18])) ?_
    refine AWp.ret ?_
    obtain rfl := some_inj hr
    refine fin_ret ?_
    simp

@[simp] noncomputable def gSlicesBinarySearchIntInt.S : Sp
  | [.sl e0 _, .lit (.int .i64 x1)], _ => some { av := .tup [.lit (.int .i64 (((gSlicesBinarySearchIntInt (e0.map decI) x1).getD dflt).1)), .lit (.bool (((gSlicesBinarySearchIntInt (e0.map decI) x1).getD dflt).2))], M := none, obl := e0 = (e0.map decI).map (eNum .i64) ∧ (gSlicesBinarySearchIntInt (e0.map decI) x1).isSome = true }
  | _, _ => none

set_option maxHeartbeats 1000000 in
theorem gSlicesBinarySearchIntInt.ok : SpecOk Try.prog 94 gSlicesBinarySearchIntInt.S := by
  intro l M out h
  unfold gSlicesBinarySearchIntInt.S at h
  split at h
  · rename_i e0 k0 x1
    cases h
    refine callOk_of fun ho => ?_
    obtain ⟨ox0, hs⟩ := ho
    generalize (e0.map decI) = x0 at *
    subst ox0
    obtain ⟨r, hr⟩ := Option.isSome_iff_exists.1 hs
    simp only [hr, Option.getD_some]
    have q := call_frame (M := M) [] (gSlicesBinarySearchIntInt.can x0 x1 r hr) (by simp) rfl (by intro k i hk; simp at hk)
    exact callOk_conv q trivial (by simp) (by simp [frameOut, gSlicesBinarySearchIntInt.out]) (by simp [frameOut, gSlicesBinarySearchIntInt.out])
  · cases h
end Go.Proofs
