/- That these functions compute what their plain functions do. No condition. -/
import Derived.Test.YtnoeflijefijcaaDcD
import Derived.Test.YtnoeflijefijcaaTy
import Derived.Test.YtnoeflijefijcaaBs
import Derived.Test.YtnoeflijefijcaaM02
namespace Go.Proofs
open Go.Ab
@[simp] def gDrrNew.out (_x0 : Int) (r : Option DrrSched × Int) : Out := { av := .tup [(optC r.1 (.lit (.pointer none)) fun _ => .ptr 2 0), .lit (.int .i64 r.2)], M := some (optC r.1 [] fun m0 => [.mapo (encM (kI .i64) (kI .i64) m0.fShare), .mapo (encM (kI .i64) (kI .i64) m0.fLeft), .blk [.lit (.int .i64 m0.fMost), .mp 0, .mp 1, .lit (.int .i64 m0.fAt), .lit (.bool m0.fGranted)]]) }
set_option maxHeartbeats 4000000 in
set_option maxRecDepth 100000 in
theorem gDrrNew.can (x0 : Int) (r : Option DrrSched × Int) (hr : gDrrNew x0 = some r) : CallOk Try.prog 21 [.lit (.int .i64 x0)] [] (gDrrNew.out x0 r) := by
  unfold gDrrNew at hr
  have hΓ := gamL_nil (P := Try.prog)
  refine call_of_awp Try.tyOk Try.func21 rfl (by kernel_rfl) rfl rfl (by simp) ?_
  intro _ _ _
  refine AWp.then ⟨[⟨0, none, .lit (.int .i64 x0)⟩], []⟩ (AWp.reg Try.tyOk hΓ (keep := []) (dead := []) (by kernel_rfl) rfl (by simp)) ?_
  refine AWp.seq ?_
  refine AWp.then ⟨[⟨9, none, .lit (.bool (pickB (ltI x0 1) true (ltI 16777216 x0)))⟩, ⟨0, none, .lit (.int .i64 x0)⟩], []⟩ (AWp.reg Try.tyOk hΓ (keep := [9]) (dead := []) (by kernel_rfl) rfl (by simp)) ?_
  refine AWp.cond (b := (pickB (ltI x0 1) true (ltI 16777216 x0))) (by simp) (fun h2 => ?_) (fun h2 => ?_)
  · have hr := cond_t h2 hr
    refine AWp.then ⟨[⟨2, none, .lit (.pointer none)⟩, ⟨3, none, .lit (.int .i64 5)⟩], []⟩ (AWp.reg Try.tyOk hΓ (keep := [2, 3]) (dead := [9, 0]) (by kernel_rfl) rfl (by simp [h2])) ?_
    refine AWp.ret ?_
    obtain rfl := some_inj hr
    refine fin_ret ?_
    simp
  · have hr := cond_f h2 hr
    refine AWp.skip ?_
    refine AWp.then ⟨[⟨2, none, .ptr 2 0⟩, ⟨3, none, .lit (.int .i64 0)⟩], [.mapo ([]), .mapo ([]), .blk [.lit (.int .i64 x0), .mp 0, .mp 1, .lit (.int .i64 0), .lit (.bool false)]]⟩ (AWp.reg Try.tyOk hΓ (keep := [2, 3]) (dead := [9, 0]) (by kernel_rfl) rfl (by simp [h2])) ?_
    refine AWp.ret ?_
    obtain rfl := some_inj hr
    refine fin_ret ?_
    simp

@[simp] noncomputable def gDrrNew.S : Sp
  | [.lit (.int .i64 x0)], M => some { av := .tup [(optC (((gDrrNew x0).getD dflt).1) (.lit (.pointer none)) fun _ => .ptr (M.length + 2) 0), .lit (.int .i64 (((gDrrNew x0).getD dflt).2))], M := some (optC (((gDrrNew x0).getD dflt).1) M fun m0 => M ++ [.mapo (encM (kI .i64) (kI .i64) m0.fShare), .mapo (encM (kI .i64) (kI .i64) m0.fLeft), .blk [.lit (.int .i64 m0.fMost), .mp M.length, .mp (M.length + 1), .lit (.int .i64 m0.fAt), .lit (.bool m0.fGranted)]]), obl := (gDrrNew x0).isSome = true }
  | _, _ => none

set_option maxHeartbeats 1000000 in
theorem gDrrNew.ok : SpecOk Try.prog 21 gDrrNew.S := by
  intro l M out h
  unfold gDrrNew.S at h
  split at h
  · rename_i x0
    cases h
    refine callOk_of fun ho => ?_
    have hs := ho
    obtain ⟨r, hr⟩ := Option.isSome_iff_exists.1 hs
    simp only [hr, Option.getD_some]
    have q := call_frame (M := M) [] (gDrrNew.can x0 r hr) (by simp) rfl (by intro k i hk; simp at hk)
    cases hc : r.1 with
    | none => exact callOk_conv q trivial (by simp) (by simp [hc, frameOut, gDrrNew.out]) (by simp [hc, frameOut, gDrrNew.out])
    | some m0 => exact callOk_conv q trivial (by simp) (by simp [hc, frameOut, gDrrNew.out, into]) (by simp [hc, frameOut, gDrrNew.out, into])
  · cases h

@[simp] def gDrrSchedAdd.out (_x0 : DrrSched) (_x1 : Int) (_x2 : Int) (r : Int × DrrSched) : Out := { av := .lit (.int .i64 r.1), M := some [.blk [.lit (.int .i64 r.2.fMost), .mp 1, .mp 2, .lit (.int .i64 r.2.fAt), .lit (.bool r.2.fGranted)], .mapo (encM (kI .i64) (kI .i64) r.2.fShare), .mapo (encM (kI .i64) (kI .i64) r.2.fLeft)] }
set_option maxHeartbeats 4000000 in
set_option maxRecDepth 100000 in
theorem gDrrSchedAdd.can (x0 : DrrSched) (x1 : Int) (x2 : Int) (r : Int × DrrSched) (hr : gDrrSchedAdd x0 x1 x2 = some r) : CallOk Try.prog 25 [.ptr 0 0, .lit (.int .i64 x1), .lit (.int .i64 x2)] [.blk [.lit (.int .i64 x0.fMost), .mp 1, .mp 2, .lit (.int .i64 x0.fAt), .lit (.bool x0.fGranted)], .mapo (encM (kI .i64) (kI .i64) x0.fShare), .mapo (encM (kI .i64) (kI .i64) x0.fLeft)] (gDrrSchedAdd.out x0 x1 x2 r) := by
  unfold gDrrSchedAdd at hr
  have hΓ := gamL_nil (P := Try.prog)
  refine call_of_awp Try.tyOk Try.func25 rfl (by kernel_rfl) rfl rfl (by simp) ?_
  intro _ _ _
  refine AWp.then ⟨[⟨0, none, .ptr 0 0⟩, ⟨1, none, .lit (.int .i64 x1)⟩, ⟨2, none, .lit (.int .i64 x2)⟩], [.blk [.lit (.int .i64 x0.fMost), .mp 1, .mp 2, .lit (.int .i64 x0.fAt), .lit (.bool x0.fGranted)], .mapo (encM (kI .i64) (kI .i64) x0.fShare), .mapo (encM (kI .i64) (kI .i64) x0.fLeft)]⟩ (AWp.reg Try.tyOk hΓ (keep := []) (dead := []) (by kernel_rfl) rfl (by simp)) ?_
  refine AWp.seq ?_
  refine AWp.block ?_
  refine AWp.then ⟨[⟨7, none, .lit (.bool (pickB (ltI x2 x0.fMost) true (ltI 16777216 x2)))⟩, ⟨0, none, .ptr 0 0⟩, ⟨1, none, .lit (.int .i64 x1)⟩, ⟨2, none, .lit (.int .i64 x2)⟩], [.blk [.lit (.int .i64 x0.fMost), .mp 1, .mp 2, .lit (.int .i64 x0.fAt), .lit (.bool x0.fGranted)], .mapo (encM (kI .i64) (kI .i64) x0.fShare), .mapo (encM (kI .i64) (kI .i64) x0.fLeft)]⟩ (AWp.reg Try.tyOk hΓ (keep := [7]) (dead := []) (by kernel_rfl) rfl (by simp)) ?_
  refine AWp.cond (b := (pickB (ltI x2 x0.fMost) true (ltI 16777216 x2))) (by simp) (fun h3 => ?_) (fun h3 => ?_)
  · have hr := cond_t h3 hr
    refine AWp.then ⟨[⟨6, none, .lit (.int .i64 5)⟩], [.blk [.lit (.int .i64 x0.fMost), .mp 1, .mp 2, .lit (.int .i64 x0.fAt), .lit (.bool x0.fGranted)], .mapo (encM (kI .i64) (kI .i64) x0.fShare), .mapo (encM (kI .i64) (kI .i64) x0.fLeft)]⟩ (AWp.reg Try.tyOk hΓ (keep := [6]) (dead := [7, 0, 1, 2]) (by kernel_rfl) rfl (by simp [h3])) ?_
    refine AWp.ret ?_
    obtain rfl := some_inj hr
    refine fin_ret ?_
    simp
  · have hr := cond_f h3 hr
    refine AWp.then ⟨[⟨18, none, .lit (.bool (ltI 0 (getM eqI x1 0 x0.fShare)))⟩, ⟨0, none, .ptr 0 0⟩, ⟨1, none, .lit (.int .i64 x1)⟩, ⟨2, none, .lit (.int .i64 x2)⟩], [.blk [.lit (.int .i64 x0.fMost), .mp 1, .mp 2, .lit (.int .i64 x0.fAt), .lit (.bool x0.fGranted)], .mapo (encM (kI .i64) (kI .i64) x0.fShare), .mapo (encM (kI .i64) (kI .i64) x0.fLeft)]⟩ (AWp.reg Try.tyOk hΓ (keep := [18]) (dead := [7]) (by kernel_rfl) rfl (by simp [h3])) ?_
    refine AWp.cond (b := (ltI 0 (getM eqI x1 0 x0.fShare))) (by simp) (fun h4 => ?_) (fun h4 => ?_)
    · have hr := cond_t h4 hr
      refine AWp.then ⟨[⟨6, none, .lit (.int .i64 10)⟩], [.blk [.lit (.int .i64 x0.fMost), .mp 1, .mp 2, .lit (.int .i64 x0.fAt), .lit (.bool x0.fGranted)], .mapo (encM (kI .i64) (kI .i64) x0.fShare), .mapo (encM (kI .i64) (kI .i64) x0.fLeft)]⟩ (AWp.reg Try.tyOk hΓ (keep := [6]) (dead := [18, 0, 1, 2]) (by kernel_rfl) rfl (by simp [h4])) ?_
      refine AWp.ret ?_
      obtain rfl := some_inj hr
      refine fin_ret ?_
      simp
    · have hr := cond_f h4 hr
      refine AWp.skip ?_
      refine AWp.then ⟨[], [.blk [.lit (.int .i64 x0.fMost), .mp 1, .mp 2, .lit (.int .i64 x0.fAt), .lit (.bool x0.fGranted)], .mapo (encM (kI .i64) (kI .i64) (setM eqI x1 x2 x0.fShare)), .mapo (encM (kI .i64) (kI .i64) x0.fLeft)]⟩ (AWp.reg Try.tyOk hΓ (keep := []) (dead := [18, 0, 1, 2]) (by kernel_rfl) rfl (by simp [h4])) ?_
      refine AWp.then ⟨[⟨6, none, .lit (.int .i64 0)⟩], [.blk [.lit (.int .i64 x0.fMost), .mp 1, .mp 2, .lit (.int .i64 x0.fAt), .lit (.bool x0.fGranted)], .mapo (encM (kI .i64) (kI .i64) (setM eqI x1 x2 x0.fShare)), .mapo (encM (kI .i64) (kI .i64) x0.fLeft)]⟩ (AWp.reg Try.tyOk hΓ (keep := [6]) (dead := []) (by kernel_rfl) rfl (by simp)) ?_
      refine AWp.ret ?_
      obtain rfl := some_inj hr
      refine fin_ret ?_
      simp

@[simp] noncomputable def gDrrSchedAdd.S : Sp
  | [.ptr i0 0, .lit (.int .i64 x1), .lit (.int .i64 x2)], M => match M[i0]? with
    | some (.blk c0) => (match nthE c0 1 with
    | some (.mp i1) => (match M[i1]? with
    | some (.mapo c1) => (match nthE c0 2 with
    | some (.mp i2) => (match M[i2]? with
    | some (.mapo c2) => (fun (y0 : DrrSched) => (fun (r : Int × DrrSched) => some { av := .lit (.int .i64 (r.1)), M := some (((M.set i0 (.blk [.lit (.int .i64 (r.2.fMost)), .mp i1, .mp i2, .lit (.int .i64 (r.2.fAt)), .lit (.bool (r.2.fGranted))])).set i1 (.mapo (encM (kI .i64) (kI .i64) (r.2.fShare)))).set i2 (.mapo (encM (kI .i64) (kI .i64) (r.2.fLeft)))), obl := c0 = DrrSched.enc y0 i1 i2 ∧ c1 = encM (kI .i64) (kI .i64) (y0.fShare) ∧ c2 = encM (kI .i64) (kI .i64) (y0.fLeft) ∧ (gDrrSchedAdd y0 x1 x2).isSome = true ∧ i0 ≠ i1 ∧ i0 ≠ i2 ∧ i1 ≠ i2 }) ((gDrrSchedAdd y0 x1 x2).getD dflt)) (DrrSched.dec c0 (decM dkI dkI c1) (decM dkI dkI c2))
    | _ => none)
    | _ => none)
    | _ => none)
    | _ => none)
    | _ => none
  | _, _ => none

set_option maxHeartbeats 1000000 in
theorem gDrrSchedAdd.ok : SpecOk Try.prog 25 gDrrSchedAdd.S := by
  intro l M out h
  unfold gDrrSchedAdd.S at h
  split at h
  · rename_i i0 x1 x2
    split at h
    case h_2 => cases h
    rename_i c0 hM0
    split at h
    case h_2 => cases h
    rename_i i1 he1
    split at h
    case h_2 => cases h
    rename_i c1 hM1
    split at h
    case h_2 => cases h
    rename_i i2 he2
    split at h
    case h_2 => cases h
    rename_i c2 hM2
    try dsimp only at h
    cases h
    refine callOk_of fun ho => ?_
    obtain ⟨oc0, oc1, oc2, hs, hne0, hne1, hne2⟩ := ho
    generalize (DrrSched.dec c0 (decM dkI dkI c1) (decM dkI dkI c2)) = y0 at *
    subst oc0
    subst oc1
    subst oc2
    obtain ⟨r, hr⟩ := Option.isSome_iff_exists.1 hs
    simp only [hr, Option.getD_some]
    have q := call_frame (M := M) [i0, i1, i2] (gDrrSchedAdd.can y0 x1 x2 r hr) (by simp [hne0, hne1, hne2]) rfl (by intro k i hk; (cases k with | zero => (simp at hk; subst hk; simp [hM0, into]) | succ k => ((cases k with | zero => (simp at hk; subst hk; simp [hM1]) | succ k => ((cases k with | zero => (simp at hk; subst hk; simp [hM2]) | succ k => (simp at hk)))))))
    exact callOk_conv q trivial (by simp [into]) (by simp [frameOut, gDrrSchedAdd.out, into]) (by simp [frameOut, gDrrSchedAdd.out, into])
  · cases h

@[simp] noncomputable def gDrrSchedRemove.S : Sp
  | [.ptr i0 0, .lit (.int .i64 x1)], M => match M[i0]? with
    | some (.blk c0) => (match nthE c0 1 with
    | some (.mp i1) => (match M[i1]? with
    | some (.mapo c1) => (match nthE c0 2 with
    | some (.mp i2) => (match M[i2]? with
    | some (.mapo c2) => (fun (y0 : DrrSched) => (fun (r : Int × DrrSched) => some { av := .lit (.int .i64 (r.1)), M := some (((M.set i0 (.blk [.lit (.int .i64 (r.2.fMost)), .mp i1, .mp i2, .lit (.int .i64 (r.2.fAt)), .lit (.bool (r.2.fGranted))])).set i1 (.mapo (encM (kI .i64) (kI .i64) (r.2.fShare)))).set i2 (.mapo (encM (kI .i64) (kI .i64) (r.2.fLeft)))), obl := c0 = DrrSched.enc y0 i1 i2 ∧ c1 = encM (kI .i64) (kI .i64) (y0.fShare) ∧ c2 = encM (kI .i64) (kI .i64) (y0.fLeft) ∧ (gDrrSchedRemove y0 x1).isSome = true ∧ i0 ≠ i1 ∧ i0 ≠ i2 ∧ i1 ≠ i2 }) ((gDrrSchedRemove y0 x1).getD dflt)) (DrrSched.dec c0 (decM dkI dkI c1) (decM dkI dkI c2))
    | _ => none)
    | _ => none)
    | _ => none)
    | _ => none)
    | _ => none
  | _, _ => none

@[simp] def gDrrSchedKnown.out (x0 : DrrSched) (_x1 : List Antiphonref19Head) (r : (List (Int × Int))) : Out := { av := .mp 3, M := some [.blk [.lit (.int .i64 x0.fMost), .mp 1, .mp 2, .lit (.int .i64 x0.fAt), .lit (.bool x0.fGranted)], .mapo (encM (kI .i64) (kI .i64) x0.fShare), .mapo (encM (kI .i64) (kI .i64) x0.fLeft), .mapo (encM (kI .i64) (kI .i64) r)] }
def gDrrSchedKnown.fin (x0 : DrrSched) (x1 : List Antiphonref19Head) (r : (List (Int × Int))) (σ : St) : Prop := finK (gDrrSchedKnown.out x0 x1 r) [.blk [.lit (.int .i64 x0.fMost), .mp 1, .mp 2, .lit (.int .i64 x0.fAt), .lit (.bool x0.fGranted)], .mapo (encM (kI .i64) (kI .i64) x0.fShare), .mapo (encM (kI .i64) (kI .i64) x0.fLeft)] σ.M (resA Try.ty σ.A σ.M Try.f77.results.toList)
set_option maxHeartbeats 4000000 in
set_option maxRecDepth 100000 in
theorem gDrrSchedKnown.can (x0 : DrrSched) (x1 : List Antiphonref19Head) (r : (List (Int × Int))) (hr : gDrrSchedKnown x0 x1 = some r) : CallOk Try.prog 77 [.ptr 0 0, .sl (x1.map Antiphonref19Head.enc) .no] [.blk [.lit (.int .i64 x0.fMost), .mp 1, .mp 2, .lit (.int .i64 x0.fAt), .lit (.bool x0.fGranted)], .mapo (encM (kI .i64) (kI .i64) x0.fShare), .mapo (encM (kI .i64) (kI .i64) x0.fLeft)] (gDrrSchedKnown.out x0 x1 r) := by
  unfold gDrrSchedKnown at hr
  have hΓ := gamL_nil (P := Try.prog)
  refine call_of_awp Try.tyOk Try.func77 rfl (by kernel_rfl) rfl rfl (by simp) ?_
  intro _ _ _
  refine AWp.then ⟨[⟨0, none, .ptr 0 0⟩, ⟨1, none, .sl (x1.map Antiphonref19Head.enc) .no⟩], [.blk [.lit (.int .i64 x0.fMost), .mp 1, .mp 2, .lit (.int .i64 x0.fAt), .lit (.bool x0.fGranted)], .mapo (encM (kI .i64) (kI .i64) x0.fShare), .mapo (encM (kI .i64) (kI .i64) x0.fLeft)]⟩ (AWp.reg Try.tyOk hΓ (keep := []) (dead := []) (by kernel_rfl) rfl (by simp)) ?_
  refine AWp.then ⟨[⟨5, none, .mp 3⟩, ⟨0, none, .ptr 0 0⟩, ⟨1, none, .sl (x1.map Antiphonref19Head.enc) .no⟩], [.blk [.lit (.int .i64 x0.fMost), .mp 1, .mp 2, .lit (.int .i64 x0.fAt), .lit (.bool x0.fGranted)], .mapo (encM (kI .i64) (kI .i64) x0.fShare), .mapo (encM (kI .i64) (kI .i64) x0.fLeft), .mapo ([])]⟩ (AWp.reg Try.tyOk hΓ (keep := [5]) (dead := []) (by kernel_rfl) rfl (by simp)) ?_
  refine AWp.seq ?_
  refine AWp.then ⟨[⟨9, none, .sl (x1.map Antiphonref19Head.enc) .no⟩, ⟨10, none, .lit (.int .i64 (lenL x1))⟩, ⟨11, none, .lit (.int .i64 0)⟩, ⟨5, none, .mp 3⟩, ⟨0, none, .ptr 0 0⟩], [.blk [.lit (.int .i64 x0.fMost), .mp 1, .mp 2, .lit (.int .i64 x0.fAt), .lit (.bool x0.fGranted)], .mapo (encM (kI .i64) (kI .i64) x0.fShare), .mapo (encM (kI .i64) (kI .i64) x0.fLeft), .mapo ([])]⟩ (AWp.reg Try.tyOk hΓ (keep := [9, 10, 11]) (dead := [1]) (by kernel_rfl) rfl (by simp)) ?_
  refine AWp.loopE (fun (s1 : Int × (List (Int × Int))) (γ1 : Unit) => ⟨[⟨9, none, .sl (x1.map Antiphonref19Head.enc) .no⟩, ⟨10, none, .lit (.int .i64 (lenL x1))⟩, ⟨11, none, .lit (.int .i64 s1.1)⟩, ⟨5, none, .mp 3⟩, ⟨0, none, .ptr 0 0⟩], [.blk [.lit (.int .i64 x0.fMost), .mp 1, .mp 2, .lit (.int .i64 x0.fAt), .lit (.bool x0.fGranted)], .mapo (encM (kI .i64) (kI .i64) x0.fShare), .mapo (encM (kI .i64) (kI .i64) x0.fLeft), .mapo (encM (kI .i64) (kI .i64) s1.2)]⟩) (fun (v1 : (List (Int × Int))) (γ1a : Unit) => ⟨[⟨5, none, .mp 3⟩], [.blk [.lit (.int .i64 x0.fMost), .mp 1, .mp 2, .lit (.int .i64 x0.fAt), .lit (.bool x0.fGranted)], .mapo (encM (kI .i64) (kI .i64) x0.fShare), .mapo (encM (kI .i64) (kI .i64) x0.fLeft), .mapo (encM (kI .i64) (kI .i64) v1)]⟩) (gDrrSchedKnown.fin x0 x1) hr () 4 (by simp) (fun s1 f γ1 hr => ?_) (fun v1 γ1a σ1 m1 hr hc => ?_) (fun _ h => h)
  · unfold gDrrSchedKnown.loop1 at hr
    refine AWp.then ⟨[⟨12, none, .lit (.bool (ltI s1.1 (lenL x1)))⟩, ⟨9, none, .sl (x1.map Antiphonref19Head.enc) .no⟩, ⟨10, none, .lit (.int .i64 (lenL x1))⟩, ⟨11, none, .lit (.int .i64 s1.1)⟩, ⟨5, none, .mp 3⟩, ⟨0, none, .ptr 0 0⟩], [.blk [.lit (.int .i64 x0.fMost), .mp 1, .mp 2, .lit (.int .i64 x0.fAt), .lit (.bool x0.fGranted)], .mapo (encM (kI .i64) (kI .i64) x0.fShare), .mapo (encM (kI .i64) (kI .i64) x0.fLeft), .mapo (encM (kI .i64) (kI .i64) s1.2)]⟩ (AWp.reg Try.tyOk hΓ (keep := [12]) (dead := []) (by kernel_rfl) rfl (by simp)) ?_
    refine AWp.seq ?_
    refine AWp.cond (b := (ltI s1.1 (lenL x1))) (by simp) (fun h4 => ?_) (fun h4 => ?_)
    · have hr := cond_t h4 hr
      refine AWp.skip ?_
      refine AWp.seq ?_
      refine AWp.block ?_
      obtain ⟨h5, hr⟩ := need_some hr
      refine AWp.then ⟨[⟨7, none, .ptr 4 0⟩, ⟨9, none, .sl (x1.map Antiphonref19Head.enc) .no⟩, ⟨10, none, .lit (.int .i64 (lenL x1))⟩, ⟨11, none, .lit (.int .i64 s1.1)⟩, ⟨5, none, .mp 3⟩, ⟨0, none, .ptr 0 0⟩], [.blk [.lit (.int .i64 x0.fMost), .mp 1, .mp 2, .lit (.int .i64 x0.fAt), .lit (.bool x0.fGranted)], .mapo (encM (kI .i64) (kI .i64) x0.fShare), .mapo (encM (kI .i64) (kI .i64) x0.fLeft), .mapo (encM (kI .i64) (kI .i64) s1.2), .blk (nthI x1 s1.1).enc]⟩ (AWp.reg Try.tyOk hΓ (keep := [7]) (dead := [12]) (by kernel_rfl) rfl (by simp [h4, h5])) ?_
      refine AWp.then ⟨[⟨36, none, .lit (.bool (pickB (pickB (ltI 0 (getM eqI ((nthI x1 s1.1).fId) 0 x0.fShare)) (leqI 0 ((nthI x1 s1.1).fSize)) false) (leqI ((nthI x1 s1.1).fSize) x0.fMost) false))⟩, ⟨7, none, .ptr 4 0⟩, ⟨9, none, .sl (x1.map Antiphonref19Head.enc) .no⟩, ⟨10, none, .lit (.int .i64 (lenL x1))⟩, ⟨11, none, .lit (.int .i64 s1.1)⟩, ⟨5, none, .mp 3⟩, ⟨0, none, .ptr 0 0⟩], [.blk [.lit (.int .i64 x0.fMost), .mp 1, .mp 2, .lit (.int .i64 x0.fAt), .lit (.bool x0.fGranted)], .mapo (encM (kI .i64) (kI .i64) x0.fShare), .mapo (encM (kI .i64) (kI .i64) x0.fLeft), .mapo (encM (kI .i64) (kI .i64) s1.2), .blk (nthI x1 s1.1).enc]⟩ (AWp.regD Try.mixed Try.tyOk hΓ (keep := [36]) (dead := []) [] [(false, []), (false, []), (false, []), (false, []), (false, []), (false, []), (false, []), (false, []), (false, []), (false, [23]), (false, [23]), (false, [23]), (false, []), (false, []), (false, [28]), (false, [28]), (false, [28]), (false, [28]), (false, [28]), (false, [28]), (false, [28]), (false, [])] (by kernel_rfl) rfl (by simp)) ?_
      refine AWp.cond (b := (pickB (pickB (ltI 0 (getM eqI ((nthI x1 s1.1).fId) 0 x0.fShare)) (leqI 0 ((nthI x1 s1.1).fSize)) false) (leqI ((nthI x1 s1.1).fSize) x0.fMost) false)) (by simp) (fun h6 => ?_) (fun h6 => ?_)
      · have hr := cond_t h6 hr
        refine AWp.last ⟨[⟨9, none, .sl (x1.map Antiphonref19Head.enc) .no⟩, ⟨10, none, .lit (.int .i64 (lenL x1))⟩, ⟨11, none, .lit (.int .i64 s1.1)⟩, ⟨5, none, .mp 3⟩, ⟨0, none, .ptr 0 0⟩], [.blk [.lit (.int .i64 x0.fMost), .mp 1, .mp 2, .lit (.int .i64 x0.fAt), .lit (.bool x0.fGranted)], .mapo (encM (kI .i64) (kI .i64) x0.fShare), .mapo (encM (kI .i64) (kI .i64) x0.fLeft), .mapo (encM (kI .i64) (kI .i64) (setM eqI ((nthI x1 s1.1).fId) ((nthI x1 s1.1).fSize) s1.2)), .blk (nthI x1 s1.1).enc]⟩ (AWp.reg Try.tyOk hΓ (keep := []) (dead := [36, 7]) (by kernel_rfl) rfl (by simp [h6])) ?_
        refine AWp.last ⟨[⟨11, none, .lit (.int .i64 (addI .i64 s1.1 1))⟩, ⟨9, none, .sl (x1.map Antiphonref19Head.enc) .no⟩, ⟨10, none, .lit (.int .i64 (lenL x1))⟩, ⟨5, none, .mp 3⟩, ⟨0, none, .ptr 0 0⟩], [.blk [.lit (.int .i64 x0.fMost), .mp 1, .mp 2, .lit (.int .i64 x0.fAt), .lit (.bool x0.fGranted)], .mapo (encM (kI .i64) (kI .i64) x0.fShare), .mapo (encM (kI .i64) (kI .i64) x0.fLeft), .mapo (encM (kI .i64) (kI .i64) (setM eqI ((nthI x1 s1.1).fId) ((nthI x1 s1.1).fSize) s1.2)), .blk (nthI x1 s1.1).enc]⟩ (AWp.reg Try.tyOk hΓ (keep := [11]) (dead := []) (by kernel_rfl) rfl (by simp)) ?_
        obtain rfl := some_inj hr
        exact round_go () 4 (by first | (simp; done) | simp [h4, h5, h6])
      · have hr := cond_f h6 hr
        refine AWp.skip ?_
        refine AWp.last ⟨[⟨11, none, .lit (.int .i64 (addI .i64 s1.1 1))⟩, ⟨9, none, .sl (x1.map Antiphonref19Head.enc) .no⟩, ⟨10, none, .lit (.int .i64 (lenL x1))⟩, ⟨5, none, .mp 3⟩, ⟨0, none, .ptr 0 0⟩], [.blk [.lit (.int .i64 x0.fMost), .mp 1, .mp 2, .lit (.int .i64 x0.fAt), .lit (.bool x0.fGranted)], .mapo (encM (kI .i64) (kI .i64) x0.fShare), .mapo (encM (kI .i64) (kI .i64) x0.fLeft), .mapo (encM (kI .i64) (kI .i64) s1.2), .blk (nthI x1 s1.1).enc]⟩ (AWp.reg Try.tyOk hΓ (keep := [11]) (dead := [36, 7]) (by kernel_rfl) rfl (by simp [h6])) ?_
        obtain rfl := some_inj hr
        exact round_go () 4 (by first | (simp; done) | simp [h4, h5, h6])
    · have hr := cond_f h4 hr
      refine AWp.exit ?_
      obtain rfl := some_inj hr
      exact round_out () 4 (by first | (simp; done) | simp [h4])
  · refine AWp.conv hc ?_
    refine AWp.then ⟨[⟨4, none, .mp 3⟩], [.blk [.lit (.int .i64 x0.fMost), .mp 1, .mp 2, .lit (.int .i64 x0.fAt), .lit (.bool x0.fGranted)], .mapo (encM (kI .i64) (kI .i64) x0.fShare), .mapo (encM (kI .i64) (kI .i64) x0.fLeft), .mapo (encM (kI .i64) (kI .i64) v1)]⟩ (AWp.reg Try.tyOk hΓ (keep := [4]) (dead := [5]) (by kernel_rfl) rfl (by simp)) ?_
    refine AWp.ret ?_
    obtain rfl := some_inj hr
    refine fin_ret ?_
    simp

@[simp] noncomputable def gDrrSchedKnown.S : Sp
  | [.ptr i0 0, .sl e1 _], M => match M[i0]? with
    | some (.blk c0) => (match nthE c0 1 with
    | some (.mp i1) => (match M[i1]? with
    | some (.mapo c1) => (match nthE c0 2 with
    | some (.mp i2) => (match M[i2]? with
    | some (.mapo c2) => (fun (y0 : DrrSched) => some { av := .mp M.length, M := some (M ++ [.mapo (encM (kI .i64) (kI .i64) ((gDrrSchedKnown y0 (e1.map Antiphonref19Head.dec)).getD dflt))]), obl := e1 = (e1.map Antiphonref19Head.dec).map Antiphonref19Head.enc ∧ c0 = DrrSched.enc y0 i1 i2 ∧ c1 = encM (kI .i64) (kI .i64) (y0.fShare) ∧ c2 = encM (kI .i64) (kI .i64) (y0.fLeft) ∧ (gDrrSchedKnown y0 (e1.map Antiphonref19Head.dec)).isSome = true ∧ i0 ≠ i1 ∧ i0 ≠ i2 ∧ i1 ≠ i2 }) (DrrSched.dec c0 (decM dkI dkI c1) (decM dkI dkI c2))
    | _ => none)
    | _ => none)
    | _ => none)
    | _ => none)
    | _ => none
  | _, _ => none

set_option maxHeartbeats 1000000 in
theorem gDrrSchedKnown.ok : SpecOk Try.prog 77 gDrrSchedKnown.S := by
  intro l M out h
  unfold gDrrSchedKnown.S at h
  split at h
  · rename_i i0 e1 k1
    split at h
    case h_2 => cases h
    rename_i c0 hM0
    split at h
    case h_2 => cases h
    rename_i i1 he1
    split at h
    case h_2 => cases h
    rename_i c1 hM1
    split at h
    case h_2 => cases h
    rename_i i2 he2
    split at h
    case h_2 => cases h
    rename_i c2 hM2
    try dsimp only at h
    cases h
    refine callOk_of fun ho => ?_
    obtain ⟨ox1, oc0, oc1, oc2, hs, hne0, hne1, hne2⟩ := ho
    generalize (DrrSched.dec c0 (decM dkI dkI c1) (decM dkI dkI c2)) = y0 at *
    generalize (e1.map Antiphonref19Head.dec) = x1 at *
    subst ox1
    subst oc0
    subst oc1
    subst oc2
    obtain ⟨r, hr⟩ := Option.isSome_iff_exists.1 hs
    simp only [hr, Option.getD_some]
    have q := call_frame (M := M) [i0, i1, i2] (gDrrSchedKnown.can y0 x1 r hr) (by simp [hne0, hne1, hne2]) rfl (by intro k i hk; (cases k with | zero => (simp at hk; subst hk; simp [hM0, into]) | succ k => ((cases k with | zero => (simp at hk; subst hk; simp [hM1]) | succ k => ((cases k with | zero => (simp at hk; subst hk; simp [hM2]) | succ k => (simp at hk)))))))
    exact callOk_conv q trivial (by simp [into]) (by simp [frameOut, gDrrSchedKnown.out, into]) (by simp [frameOut, gDrrSchedKnown.out, into, hM0, hM1, hM2, set_same])
  · cases h

@[simp] def gDrrAfter.out (_x0 : List Int) (_x1 : Int) (r : Int) : Out := { av := .lit (.int .i64 r), M := none }
def gDrrAfter.fin (x0 : List Int) (x1 : Int) (r : Int) (σ : St) : Prop := finK (gDrrAfter.out x0 x1 r) [] σ.M (resA Try.ty σ.A σ.M Try.f79.results.toList)
set_option maxHeartbeats 4000000 in
set_option maxRecDepth 100000 in
theorem gDrrAfter.can (x0 : List Int) (x1 : Int) (r : Int) (hr : gDrrAfter x0 x1 = some r) : CallOk Try.prog 79 [.sl (x0.map (eNum .i64)) .no, .lit (.int .i64 x1)] [] (gDrrAfter.out x0 x1 r) := by
  unfold gDrrAfter at hr
  have hΓ := (gamL_cons gSlicesBinarySearchIntInt.ok (gamL_nil) : GamOk Try.prog _)
  refine call_of_awp Try.tyOk Try.func79 rfl (by kernel_rfl) rfl rfl (by simp) ?_
  intro _ _ _
  refine AWp.then ⟨[⟨0, none, .sl (x0.map (eNum .i64)) .no⟩, ⟨1, none, .lit (.int .i64 x1)⟩], []⟩ (AWp.reg Try.tyOk hΓ (keep := []) (dead := []) (by kernel_rfl) rfl (by simp)) ?_
  obtain ⟨r1, h5, hr⟩ := bind_some' hr
  refine AWp.then ⟨[⟨5, none, .lit (.int .i64 r1.1)⟩, ⟨6, none, .lit (.bool r1.2)⟩, ⟨0, none, .sl (x0.map (eNum .i64)) .no⟩], []⟩ (AWp.reg Try.tyOk hΓ (keep := [5, 6]) (dead := [1]) (by kernel_rfl) rfl (by simp [h5])) ?_
  refine AWp.meetF (fun (v1 : Int) (γ1 : Unit) => ⟨[⟨5, none, .lit (.int .i64 v1)⟩, ⟨0, none, .sl (x0.map (eNum .i64)) .no⟩], []⟩) (gDrrAfter.fin x0 x1) hr (fun f hr => ?_) (fun v1 γ1 hr => ?_) (fun _ h => h)
  · refine AWp.then ⟨[⟨13, none, .lit (.bool r1.2)⟩, ⟨5, none, .lit (.int .i64 r1.1)⟩, ⟨0, none, .sl (x0.map (eNum .i64)) .no⟩], []⟩ (AWp.reg Try.tyOk hΓ (keep := [13]) (dead := [6]) (by kernel_rfl) rfl (by simp)) ?_
    refine AWp.cond (b := r1.2) (by simp) (fun h6 => ?_) (fun h6 => ?_)
    · have hr := cond_t h6 hr
      refine AWp.last ⟨[⟨5, none, .lit (.int .i64 (addI .i64 r1.1 1))⟩, ⟨0, none, .sl (x0.map (eNum .i64)) .no⟩], []⟩ (AWp.reg Try.tyOk hΓ (keep := [5]) (dead := [13]) (by kernel_rfl) rfl (by simp [h6])) ?_
      obtain rfl := some_inj hr
      exact meet_go () 0 (by first | (simp; done) | simp [h5, h6])
    · have hr := cond_f h6 hr
      refine AWp.skip ?_
      obtain rfl := some_inj hr
      exact meet_go () 0 (by first | (simp; done) | simp [h5, h6])
  · obtain ⟨h7, hr⟩ := need_some hr
    obtain ⟨h8, hr⟩ := need_some hr
    refine AWp.then ⟨[⟨4, none, .lit (.int .i64 (nthI x0 (remI v1 (lenL x0))))⟩], []⟩ (AWp.reg Try.tyOk hΓ (keep := [4]) (dead := [5, 0]) (by kernel_rfl) rfl (by simp [h7, h8])) ?_
    refine AWp.ret ?_
    obtain rfl := some_inj hr
    refine fin_ret ?_
    simp

@[simp] noncomputable def gDrrAfter.S : Sp
  | [.sl e0 _, .lit (.int .i64 x1)], _ => some { av := .lit (.int .i64 ((gDrrAfter (e0.map decI) x1).getD dflt)), M := none, obl := e0 = (e0.map decI).map (eNum .i64) ∧ (gDrrAfter (e0.map decI) x1).isSome = true }
  | _, _ => none

set_option maxHeartbeats 1000000 in
theorem gDrrAfter.ok : SpecOk Try.prog 79 gDrrAfter.S := by
  intro l M out h
  unfold gDrrAfter.S at h
  split at h
  · rename_i e0 k0 x1
    cases h
    refine callOk_of fun ho => ?_
    obtain ⟨ox0, hs⟩ := ho
    generalize (e0.map decI) = x0 at *
    subst ox0
    obtain ⟨r, hr⟩ := Option.isSome_iff_exists.1 hs
    simp only [hr, Option.getD_some]
    have q := call_frame (M := M) [] (gDrrAfter.can x0 x1 r hr) (by simp) rfl (by intro k i hk; simp at hk)
    exact callOk_conv q trivial (by simp) (by simp [frameOut, gDrrAfter.out]) (by simp [frameOut, gDrrAfter.out])
  · cases h

@[simp] def gDrrSchedChoose.out (_x0 : DrrSched) (_x1 : List Antiphonref19Head) (r : Int × Bool × DrrSched) : Out := { av := .tup [.lit (.int .i64 r.1), .lit (.bool r.2.1)], M := some [.blk [.lit (.int .i64 r.2.2.fMost), .mp 1, .mp 2, .lit (.int .i64 r.2.2.fAt), .lit (.bool r.2.2.fGranted)], .mapo (encM (kI .i64) (kI .i64) r.2.2.fShare), .mapo (encM (kI .i64) (kI .i64) r.2.2.fLeft)] }
def gDrrSchedChoose.fin (x0 : DrrSched) (x1 : List Antiphonref19Head) (r : Int × Bool × DrrSched) (σ : St) : Prop := finK (gDrrSchedChoose.out x0 x1 r) [.blk [.lit (.int .i64 x0.fMost), .mp 1, .mp 2, .lit (.int .i64 x0.fAt), .lit (.bool x0.fGranted)], .mapo (encM (kI .i64) (kI .i64) x0.fShare), .mapo (encM (kI .i64) (kI .i64) x0.fLeft)] σ.M (resA Try.ty σ.A σ.M Try.f63.results.toList)
set_option maxHeartbeats 4000000 in
set_option maxRecDepth 100000 in
theorem gDrrSchedChoose.can (x0 : DrrSched) (x1 : List Antiphonref19Head) (r : Int × Bool × DrrSched) (hr : gDrrSchedChoose x0 x1 = some r) : CallOk Try.prog 63 [.ptr 0 0, .sl (x1.map Antiphonref19Head.enc) .no] [.blk [.lit (.int .i64 x0.fMost), .mp 1, .mp 2, .lit (.int .i64 x0.fAt), .lit (.bool x0.fGranted)], .mapo (encM (kI .i64) (kI .i64) x0.fShare), .mapo (encM (kI .i64) (kI .i64) x0.fLeft)] (gDrrSchedChoose.out x0 x1 r) := by
  unfold gDrrSchedChoose at hr
  have hΓ := (gamL_cons gDrrSchedKnown.ok (gamL_cons gDrrAfter.ok (gamL_cons libKeys.gMapsKeysMapIntIntIntInt.ok (gamL_cons libSorted.gSlicesSortedInt.ok (gamL_nil)))) : GamOk Try.prog _)
  refine call_of_awp Try.tyOk Try.func63 rfl (by kernel_rfl) rfl rfl (by simp) ?_
  intro _ _ _
  refine AWp.then ⟨[⟨0, none, .ptr 0 0⟩, ⟨1, none, .sl (x1.map Antiphonref19Head.enc) .no⟩], [.blk [.lit (.int .i64 x0.fMost), .mp 1, .mp 2, .lit (.int .i64 x0.fAt), .lit (.bool x0.fGranted)], .mapo (encM (kI .i64) (kI .i64) x0.fShare), .mapo (encM (kI .i64) (kI .i64) x0.fLeft)]⟩ (AWp.reg Try.tyOk hΓ (keep := []) (dead := []) (by kernel_rfl) rfl (by simp)) ?_
  obtain ⟨r1, h14, hr⟩ := bind_some' hr
  refine AWp.then ⟨[⟨6, none, .mp 3⟩, ⟨0, none, .ptr 0 0⟩], [.blk [.lit (.int .i64 x0.fMost), .mp 1, .mp 2, .lit (.int .i64 x0.fAt), .lit (.bool x0.fGranted)], .mapo (encM (kI .i64) (kI .i64) x0.fShare), .mapo (encM (kI .i64) (kI .i64) x0.fLeft), .mapo (encM (kI .i64) (kI .i64) r1)]⟩ (AWp.reg Try.tyOk hΓ (keep := [6]) (dead := [1]) (by kernel_rfl) rfl (by simp [h14])) ?_
  refine AWp.seq ?_
  refine AWp.then ⟨[⟨20, none, .it 4⟩, ⟨6, none, .mp 3⟩, ⟨0, none, .ptr 0 0⟩], [.blk [.lit (.int .i64 x0.fMost), .mp 1, .mp 2, .lit (.int .i64 x0.fAt), .lit (.bool x0.fGranted)], .mapo (encM (kI .i64) (kI .i64) x0.fShare), .mapr (encM (kI .i64) (kI .i64) x0.fLeft) [] none 4, .mapo (encM (kI .i64) (kI .i64) r1), .dead]⟩ (AWp.reg Try.tyOk hΓ (keep := [20]) (dead := []) (by kernel_rfl) rfl (by simp)) ?_
  refine AWp.prune (kk := .i64) (vE := (kI .i64)) (i := 2) (u := 4) (mm := 5) (fun k1 => (bif (notB (hasM eqI k1 r1)) then false else true)) x0.fLeft (fun m1 vis1 cur1 => ⟨[⟨20, none, .it 4⟩, ⟨6, none, .mp 3⟩, ⟨0, none, .ptr 0 0⟩], [.blk [.lit (.int .i64 x0.fMost), .mp 1, .mp 2, .lit (.int .i64 x0.fAt), .lit (.bool x0.fGranted)], .mapo (encM (kI .i64) (kI .i64) x0.fShare), .mapr (encM (kI .i64) (kI .i64) m1) vis1 cur1 4, .mapo (encM (kI .i64) (kI .i64) r1), .dead]⟩) (fun m1 => ⟨[⟨6, none, .mp 3⟩, ⟨0, none, .ptr 0 0⟩], [.blk [.lit (.int .i64 x0.fMost), .mp 1, .mp 2, .lit (.int .i64 x0.fAt), .lit (.bool x0.fGranted)], .mapo (encM (kI .i64) (kI .i64) x0.fShare), .mapo (encM (kI .i64) (kI .i64) m1), .mapo (encM (kI .i64) (kI .i64) r1)]⟩) (fun _ _ _ => rfl) (by simp) (fun m1 vis1 cur1 => ?_) (fun σ1 mx hc => ?_)
  · refine AWp.seq (AWp.regNextI Try.tyOk hΓ (t := 20) (u := 4) (i := 2) (d1 := 21) rfl rfl rfl rfl (keep := [22]) (dead := []) (by kernel_rfl) rfl (by simp) rfl (fun h15 => ⟨⟨[⟨22, none, .lit (.bool false)⟩, ⟨20, none, .it 4⟩, ⟨6, none, .mp 3⟩, ⟨0, none, .ptr 0 0⟩], [.blk [.lit (.int .i64 x0.fMost), .mp 1, .mp 2, .lit (.int .i64 x0.fAt), .lit (.bool x0.fGranted)], .mapo (encM (kI .i64) (kI .i64) x0.fShare), .mapr (encM (kI .i64) (kI .i64) m1) vis1 cur1 4, .mapo (encM (kI .i64) (kI .i64) r1), .dead]⟩, by simp, ?_⟩) (fun k1 _ _ h16 h17 h18 => ⟨⟨[⟨22, none, .lit (.bool true)⟩, ⟨20, none, .it 4⟩, ⟨6, none, .mp 3⟩, ⟨0, none, .ptr 0 0⟩], [.blk [.lit (.int .i64 x0.fMost), .mp 1, .mp 2, .lit (.int .i64 x0.fAt), .lit (.bool x0.fGranted)], .mapo (encM (kI .i64) (kI .i64) x0.fShare), .mapr (encM (kI .i64) (kI .i64) m1) (.int .i64 k1 :: vis1) (some (.int .i64 k1)) 4, .mapo (encM (kI .i64) (kI .i64) r1), .dead]⟩, by simp, ?_⟩))
    · refine AWp.seq ?_
      refine AWp.cond (b := false) (by simp) (fun hb => ?_) (fun hb => ?_)
      · cases hb
      · refine AWp.exit ?_
        exact .inl ⟨rfl, h15, 4, by simp⟩
    · refine AWp.seq ?_
      refine AWp.cond (b := true) (by simp) (fun hb => ?_) (fun hb => ?_)
      · refine AWp.skip ?_
        refine AWp.block ?_
        refine AWp.then ⟨[⟨7, none, .lit (.int .i64 k1)⟩, ⟨20, none, .it 4⟩, ⟨6, none, .mp 3⟩, ⟨0, none, .ptr 0 0⟩], [.blk [.lit (.int .i64 x0.fMost), .mp 1, .mp 2, .lit (.int .i64 x0.fAt), .lit (.bool x0.fGranted)], .mapo (encM (kI .i64) (kI .i64) x0.fShare), .mapr (encM (kI .i64) (kI .i64) m1) (.int .i64 k1 :: vis1) (some (.int .i64 k1)) 4, .mapo (encM (kI .i64) (kI .i64) r1), .dead]⟩ (AWp.reg Try.tyOk hΓ (keep := [7]) (dead := [22]) (by kernel_rfl) rfl (by simp [h18])) ?_
        refine AWp.then ⟨[⟨9, none, .lit (.bool (hasM eqI k1 r1))⟩, ⟨7, none, .lit (.int .i64 k1)⟩, ⟨20, none, .it 4⟩, ⟨6, none, .mp 3⟩, ⟨0, none, .ptr 0 0⟩], [.blk [.lit (.int .i64 x0.fMost), .mp 1, .mp 2, .lit (.int .i64 x0.fAt), .lit (.bool x0.fGranted)], .mapo (encM (kI .i64) (kI .i64) x0.fShare), .mapr (encM (kI .i64) (kI .i64) m1) (.int .i64 k1 :: vis1) (some (.int .i64 k1)) 4, .mapo (encM (kI .i64) (kI .i64) r1), .dead]⟩ (AWp.reg Try.tyOk hΓ (keep := [9]) (dead := []) (by kernel_rfl) rfl (by simp)) ?_
        refine AWp.then ⟨[⟨32, none, .lit (.bool (notB (hasM eqI k1 r1)))⟩, ⟨7, none, .lit (.int .i64 k1)⟩, ⟨20, none, .it 4⟩, ⟨6, none, .mp 3⟩, ⟨0, none, .ptr 0 0⟩], [.blk [.lit (.int .i64 x0.fMost), .mp 1, .mp 2, .lit (.int .i64 x0.fAt), .lit (.bool x0.fGranted)], .mapo (encM (kI .i64) (kI .i64) x0.fShare), .mapr (encM (kI .i64) (kI .i64) m1) (.int .i64 k1 :: vis1) (some (.int .i64 k1)) 4, .mapo (encM (kI .i64) (kI .i64) r1), .dead]⟩ (AWp.reg Try.tyOk hΓ (keep := [32]) (dead := [9]) (by kernel_rfl) rfl (by simp)) ?_
        refine AWp.cond (b := (notB (hasM eqI k1 r1))) (by simp) (fun h19 => ?_) (fun h19 => ?_)
        · refine AWp.last ⟨[⟨20, none, .it 4⟩, ⟨6, none, .mp 3⟩, ⟨0, none, .ptr 0 0⟩], [.blk [.lit (.int .i64 x0.fMost), .mp 1, .mp 2, .lit (.int .i64 x0.fAt), .lit (.bool x0.fGranted)], .mapo (encM (kI .i64) (kI .i64) x0.fShare), .mapr (encM (kI .i64) (kI .i64) (delM eqI k1 m1)) (.int .i64 k1 :: vis1) (some (.int .i64 k1)) 4, .mapo (encM (kI .i64) (kI .i64) r1), .dead]⟩ (AWp.reg Try.tyOk hΓ (keep := []) (dead := [32, 7]) (by kernel_rfl) rfl (by simp [h18, h19])) ?_
          exact .inr ⟨rfl, k1, h16, ⟨_, h17⟩, 5, by simp [h19]⟩
        · refine AWp.skip ?_
          exact .inr ⟨rfl, k1, h16, ⟨_, h17⟩, 5, by simp [h19]⟩
      · cases hb
  · refine AWp.conv hc ?_
    obtain ⟨h20, hr⟩ := need_some hr
    refine AWp.then ⟨[⟨10, none, .sl ((sortL (keysM r1)).map (eNum .i64)) .no⟩, ⟨6, none, .mp 3⟩, ⟨0, none, .ptr 0 0⟩], [.blk [.lit (.int .i64 x0.fMost), .mp 1, .mp 2, .lit (.int .i64 x0.fAt), .lit (.bool x0.fGranted)], .mapo (encM (kI .i64) (kI .i64) x0.fShare), .mapo (encM (kI .i64) (kI .i64) (keepM (fun k1 => (bif (notB (hasM eqI k1 r1)) then false else true)) x0.fLeft)), .mapo (encM (kI .i64) (kI .i64) r1)]⟩ (AWp.reg Try.tyOk hΓ (keep := [10]) (dead := []) (by kernel_rfl) rfl (by simp [h20])) ?_
    refine AWp.seq ?_
    refine AWp.then ⟨[⟨43, none, .lit (.bool (eqI (lenL (sortL (keysM r1))) 0))⟩, ⟨10, none, .sl ((sortL (keysM r1)).map (eNum .i64)) .no⟩, ⟨6, none, .mp 3⟩, ⟨0, none, .ptr 0 0⟩], [.blk [.lit (.int .i64 x0.fMost), .mp 1, .mp 2, .lit (.int .i64 x0.fAt), .lit (.bool x0.fGranted)], .mapo (encM (kI .i64) (kI .i64) x0.fShare), .mapo (encM (kI .i64) (kI .i64) (keepM (fun k1 => (bif (notB (hasM eqI k1 r1)) then false else true)) x0.fLeft)), .mapo (encM (kI .i64) (kI .i64) r1)]⟩ (AWp.reg Try.tyOk hΓ (keep := [43]) (dead := []) (by kernel_rfl) rfl (by simp)) ?_
    refine AWp.cond (b := (eqI (lenL (sortL (keysM r1))) 0)) (by simp) (fun h21 => ?_) (fun h21 => ?_)
    · have hr := cond_t h21 hr
      refine AWp.then ⟨[], [.blk [.lit (.int .i64 x0.fMost), .mp 1, .mp 2, .lit (.int .i64 x0.fAt), .lit (.bool false)], .mapo (encM (kI .i64) (kI .i64) x0.fShare), .mapo (encM (kI .i64) (kI .i64) (keepM (fun k1 => (bif (notB (hasM eqI k1 r1)) then false else true)) x0.fLeft)), .mapo (encM (kI .i64) (kI .i64) r1)]⟩ (AWp.reg Try.tyOk hΓ (keep := []) (dead := [43, 10, 6, 0]) (by kernel_rfl) rfl (by simp [h21])) ?_
      refine AWp.then ⟨[⟨4, none, .lit (.int .i64 0)⟩, ⟨5, none, .lit (.bool false)⟩], [.blk [.lit (.int .i64 x0.fMost), .mp 1, .mp 2, .lit (.int .i64 x0.fAt), .lit (.bool false)], .mapo (encM (kI .i64) (kI .i64) x0.fShare), .mapo (encM (kI .i64) (kI .i64) (keepM (fun k1 => (bif (notB (hasM eqI k1 r1)) then false else true)) x0.fLeft)), .mapo (encM (kI .i64) (kI .i64) r1)]⟩ (AWp.reg Try.tyOk hΓ (keep := [4, 5]) (dead := []) (by kernel_rfl) rfl (by simp)) ?_
      refine AWp.ret ?_
      obtain rfl := some_inj hr
      refine fin_ret ?_
      simp
    · have hr := cond_f h21 hr
      refine AWp.skip ?_
      refine AWp.meetF (fun (v2 : Int × Bool) (γ2 : Unit) => ⟨[⟨10, none, .sl ((sortL (keysM r1)).map (eNum .i64)) .no⟩, ⟨6, none, .mp 3⟩, ⟨0, none, .ptr 0 0⟩], [.blk [.lit (.int .i64 x0.fMost), .mp 1, .mp 2, .lit (.int .i64 v2.1), .lit (.bool v2.2)], .mapo (encM (kI .i64) (kI .i64) x0.fShare), .mapo (encM (kI .i64) (kI .i64) (keepM (fun k1 => (bif (notB (hasM eqI k1 r1)) then false else true)) x0.fLeft)), .mapo (encM (kI .i64) (kI .i64) r1)]⟩) (gDrrSchedChoose.fin x0 x1) hr (fun f hr => ?_) (fun v2 γ2 hr => ?_) (fun _ h => h)
      · refine AWp.then ⟨[⟨12, none, .lit (.bool (hasM eqI x0.fAt r1))⟩, ⟨10, none, .sl ((sortL (keysM r1)).map (eNum .i64)) .no⟩, ⟨6, none, .mp 3⟩, ⟨0, none, .ptr 0 0⟩], [.blk [.lit (.int .i64 x0.fMost), .mp 1, .mp 2, .lit (.int .i64 x0.fAt), .lit (.bool x0.fGranted)], .mapo (encM (kI .i64) (kI .i64) x0.fShare), .mapo (encM (kI .i64) (kI .i64) (keepM (fun k1 => (bif (notB (hasM eqI k1 r1)) then false else true)) x0.fLeft)), .mapo (encM (kI .i64) (kI .i64) r1)]⟩ (AWp.reg Try.tyOk hΓ (keep := [12]) (dead := [43]) (by kernel_rfl) rfl (by simp [h21])) ?_
        refine AWp.then ⟨[⟨57, none, .lit (.bool (notB (hasM eqI x0.fAt r1)))⟩, ⟨10, none, .sl ((sortL (keysM r1)).map (eNum .i64)) .no⟩, ⟨6, none, .mp 3⟩, ⟨0, none, .ptr 0 0⟩], [.blk [.lit (.int .i64 x0.fMost), .mp 1, .mp 2, .lit (.int .i64 x0.fAt), .lit (.bool x0.fGranted)], .mapo (encM (kI .i64) (kI .i64) x0.fShare), .mapo (encM (kI .i64) (kI .i64) (keepM (fun k1 => (bif (notB (hasM eqI k1 r1)) then false else true)) x0.fLeft)), .mapo (encM (kI .i64) (kI .i64) r1)]⟩ (AWp.reg Try.tyOk hΓ (keep := [57]) (dead := [12]) (by kernel_rfl) rfl (by simp)) ?_
        refine AWp.cond (b := (notB (hasM eqI x0.fAt r1))) (by simp) (fun h22 => ?_) (fun h22 => ?_)
        · have hr := cond_t h22 hr
          obtain ⟨r2, h23, hr⟩ := bind_some' hr
          refine AWp.last ⟨[⟨10, none, .sl ((sortL (keysM r1)).map (eNum .i64)) .no⟩, ⟨6, none, .mp 3⟩, ⟨0, none, .ptr 0 0⟩], [.blk [.lit (.int .i64 x0.fMost), .mp 1, .mp 2, .lit (.int .i64 r2), .lit (.bool false)], .mapo (encM (kI .i64) (kI .i64) x0.fShare), .mapo (encM (kI .i64) (kI .i64) (keepM (fun k1 => (bif (notB (hasM eqI k1 r1)) then false else true)) x0.fLeft)), .mapo (encM (kI .i64) (kI .i64) r1)]⟩ (AWp.reg Try.tyOk hΓ (keep := []) (dead := [57]) (by kernel_rfl) rfl (by simp [h22, h23])) ?_
          obtain rfl := some_inj hr
          exact meet_go () 4 (by first | (simp; done) | simp [h14, h20, h21, h22, h23])
        · have hr := cond_f h22 hr
          refine AWp.skip ?_
          obtain rfl := some_inj hr
          exact meet_go () 4 (by first | (simp; done) | simp [h14, h20, h21, h22])
      · refine AWp.loopE (fun (s3 : Int × Bool × (List (Int × Int))) (γ3 : Unit) => ⟨[⟨10, none, .sl ((sortL (keysM r1)).map (eNum .i64)) .no⟩, ⟨6, none, .mp 3⟩, ⟨0, none, .ptr 0 0⟩], [.blk [.lit (.int .i64 x0.fMost), .mp 1, .mp 2, .lit (.int .i64 s3.1), .lit (.bool s3.2.1)], .mapo (encM (kI .i64) (kI .i64) x0.fShare), .mapo (encM (kI .i64) (kI .i64) s3.2.2), .mapo (encM (kI .i64) (kI .i64) r1)]⟩) (fun (v3 : Unit) (γ3a : Unit) => ⟨[], []⟩) (gDrrSchedChoose.fin x0 x1) hr () 4 (by simp) (fun s3 f γ3 hr => ?_) (fun v3 γ3a σ1 m1 hr hc => ?_) (fun _ h => h)
        · unfold gDrrSchedChoose.loop3 at hr
          refine AWp.block ?_
          refine AWp.meetF (fun (v4 : Bool × (List (Int × Int))) (γ4 : Unit) => ⟨[⟨10, none, .sl ((sortL (keysM r1)).map (eNum .i64)) .no⟩, ⟨6, none, .mp 3⟩, ⟨0, none, .ptr 0 0⟩], [.blk [.lit (.int .i64 x0.fMost), .mp 1, .mp 2, .lit (.int .i64 s3.1), .lit (.bool v4.1)], .mapo (encM (kI .i64) (kI .i64) x0.fShare), .mapo (encM (kI .i64) (kI .i64) v4.2), .mapo (encM (kI .i64) (kI .i64) r1)]⟩) (QRr (gDrrSchedChoose.fin x0 x1)) hr (fun f hr => ?_) (fun v4 γ4 hr => ?_) (fun _ h => QRr_ret h)
          · refine AWp.then ⟨[⟨74, none, .lit (.bool (notB s3.2.1))⟩, ⟨10, none, .sl ((sortL (keysM r1)).map (eNum .i64)) .no⟩, ⟨6, none, .mp 3⟩, ⟨0, none, .ptr 0 0⟩], [.blk [.lit (.int .i64 x0.fMost), .mp 1, .mp 2, .lit (.int .i64 s3.1), .lit (.bool s3.2.1)], .mapo (encM (kI .i64) (kI .i64) x0.fShare), .mapo (encM (kI .i64) (kI .i64) s3.2.2), .mapo (encM (kI .i64) (kI .i64) r1)]⟩ (AWp.reg Try.tyOk hΓ (keep := [74]) (dead := []) (by kernel_rfl) rfl (by simp)) ?_
            refine AWp.cond (b := (notB s3.2.1)) (by simp) (fun h24 => ?_) (fun h24 => ?_)
            · have hr := cond_t h24 hr
              refine AWp.then ⟨[⟨10, none, .sl ((sortL (keysM r1)).map (eNum .i64)) .no⟩, ⟨6, none, .mp 3⟩, ⟨0, none, .ptr 0 0⟩], [.blk [.lit (.int .i64 x0.fMost), .mp 1, .mp 2, .lit (.int .i64 s3.1), .lit (.bool s3.2.1)], .mapo (encM (kI .i64) (kI .i64) x0.fShare), .mapo (encM (kI .i64) (kI .i64) (setM eqI s3.1 (addI .i64 (getM eqI s3.1 0 s3.2.2) (getM eqI s3.1 0 x0.fShare)) s3.2.2)), .mapo (encM (kI .i64) (kI .i64) r1)]⟩ (AWp.regD Try.mixed Try.tyOk hΓ (keep := []) (dead := [74]) [] [(false, []), (false, []), (false, []), (false, []), (false, []), (false, []), (false, []), (false, []), (false, []), (false, []), (false, []), (false, []), (false, []), (false, []), (false, []), (false, []), (false, []), (false, []), (false, []), (true, [])] (by kernel_rfl) rfl (by simp [h24])) ?_
              refine AWp.last ⟨[⟨10, none, .sl ((sortL (keysM r1)).map (eNum .i64)) .no⟩, ⟨6, none, .mp 3⟩, ⟨0, none, .ptr 0 0⟩], [.blk [.lit (.int .i64 x0.fMost), .mp 1, .mp 2, .lit (.int .i64 s3.1), .lit (.bool true)], .mapo (encM (kI .i64) (kI .i64) x0.fShare), .mapo (encM (kI .i64) (kI .i64) (setM eqI s3.1 (addI .i64 (getM eqI s3.1 0 s3.2.2) (getM eqI s3.1 0 x0.fShare)) s3.2.2)), .mapo (encM (kI .i64) (kI .i64) r1)]⟩ (AWp.reg Try.tyOk hΓ (keep := []) (dead := []) (by kernel_rfl) rfl (by simp)) ?_
              obtain rfl := some_inj hr
              exact meet_go () 4 (by first | (simp; done) | simp [h14, h20, h21, h24])
            · have hr := cond_f h24 hr
              refine AWp.skip ?_
              obtain rfl := some_inj hr
              exact meet_go () 4 (by first | (simp; done) | simp [h14, h20, h21, h24])
          · refine AWp.seq ?_
            refine AWp.then ⟨[⟨112, none, .lit (.bool (leqI (getM eqI s3.1 0 r1) (getM eqI s3.1 0 v4.2)))⟩, ⟨10, none, .sl ((sortL (keysM r1)).map (eNum .i64)) .no⟩, ⟨6, none, .mp 3⟩, ⟨0, none, .ptr 0 0⟩], [.blk [.lit (.int .i64 x0.fMost), .mp 1, .mp 2, .lit (.int .i64 s3.1), .lit (.bool v4.1)], .mapo (encM (kI .i64) (kI .i64) x0.fShare), .mapo (encM (kI .i64) (kI .i64) v4.2), .mapo (encM (kI .i64) (kI .i64) r1)]⟩ (AWp.regD Try.mixed Try.tyOk hΓ (keep := [112]) (dead := []) [] [(false, []), (false, []), (false, []), (false, []), (false, []), (false, []), (false, []), (false, []), (false, []), (false, []), (false, []), (false, []), (false, []), (false, []), (false, []), (false, [])] (by kernel_rfl) rfl (by simp)) ?_
            refine AWp.cond (b := (leqI (getM eqI s3.1 0 r1) (getM eqI s3.1 0 v4.2))) (by simp) (fun h25 => ?_) (fun h25 => ?_)
            · have hr := cond_t h25 hr
              refine AWp.then ⟨[⟨4, none, .lit (.int .i64 s3.1)⟩, ⟨5, none, .lit (.bool true)⟩], [.blk [.lit (.int .i64 x0.fMost), .mp 1, .mp 2, .lit (.int .i64 s3.1), .lit (.bool v4.1)], .mapo (encM (kI .i64) (kI .i64) x0.fShare), .mapo (encM (kI .i64) (kI .i64) v4.2), .mapo (encM (kI .i64) (kI .i64) r1)]⟩ (AWp.reg Try.tyOk hΓ (keep := [4, 5]) (dead := [112, 10, 6, 0]) (by kernel_rfl) rfl (by simp [h25])) ?_
              refine AWp.ret ?_
              obtain rfl := some_inj hr
              refine round_ret ?_
              refine fin_ret ?_
              simp
            · have hr := cond_f h25 hr
              refine AWp.skip ?_
              obtain ⟨r3, h26, hr⟩ := bind_some' hr
              refine AWp.last ⟨[⟨10, none, .sl ((sortL (keysM r1)).map (eNum .i64)) .no⟩, ⟨6, none, .mp 3⟩, ⟨0, none, .ptr 0 0⟩], [.blk [.lit (.int .i64 x0.fMost), .mp 1, .mp 2, .lit (.int .i64 r3), .lit (.bool false)], .mapo (encM (kI .i64) (kI .i64) x0.fShare), .mapo (encM (kI .i64) (kI .i64) v4.2), .mapo (encM (kI .i64) (kI .i64) r1)]⟩ (AWp.reg Try.tyOk hΓ (keep := []) (dead := [112]) (by kernel_rfl) rfl (by simp [h25, h26])) ?_
              obtain rfl := some_inj hr
              exact round_go () 4 (by first | (simp; done) | simp [h14, h20, h21, h25, h26])
        · cases hr

@[simp] noncomputable def gDrrSchedChoose.S : Sp
  | [.ptr i0 0, .sl e1 _], M => match M[i0]? with
    | some (.blk c0) => (match nthE c0 1 with
    | some (.mp i1) => (match M[i1]? with
    | some (.mapo c1) => (match nthE c0 2 with
    | some (.mp i2) => (match M[i2]? with
    | some (.mapo c2) => (fun (y0 : DrrSched) => (fun (r : Int × Bool × DrrSched) => some { av := .tup [.lit (.int .i64 (r.1)), .lit (.bool (r.2.1))], M := some (((M.set i0 (.blk [.lit (.int .i64 (r.2.2.fMost)), .mp i1, .mp i2, .lit (.int .i64 (r.2.2.fAt)), .lit (.bool (r.2.2.fGranted))])).set i1 (.mapo (encM (kI .i64) (kI .i64) (r.2.2.fShare)))).set i2 (.mapo (encM (kI .i64) (kI .i64) (r.2.2.fLeft)))), obl := e1 = (e1.map Antiphonref19Head.dec).map Antiphonref19Head.enc ∧ c0 = DrrSched.enc y0 i1 i2 ∧ c1 = encM (kI .i64) (kI .i64) (y0.fShare) ∧ c2 = encM (kI .i64) (kI .i64) (y0.fLeft) ∧ (gDrrSchedChoose y0 (e1.map Antiphonref19Head.dec)).isSome = true ∧ i0 ≠ i1 ∧ i0 ≠ i2 ∧ i1 ≠ i2 }) ((gDrrSchedChoose y0 (e1.map Antiphonref19Head.dec)).getD dflt)) (DrrSched.dec c0 (decM dkI dkI c1) (decM dkI dkI c2))
    | _ => none)
    | _ => none)
    | _ => none)
    | _ => none)
    | _ => none
  | _, _ => none

set_option maxHeartbeats 1000000 in
theorem gDrrSchedChoose.ok : SpecOk Try.prog 63 gDrrSchedChoose.S := by
  intro l M out h
  unfold gDrrSchedChoose.S at h
  split at h
  · rename_i i0 e1 k1
    split at h
    case h_2 => cases h
    rename_i c0 hM0
    split at h
    case h_2 => cases h
    rename_i i1 he1
    split at h
    case h_2 => cases h
    rename_i c1 hM1
    split at h
    case h_2 => cases h
    rename_i i2 he2
    split at h
    case h_2 => cases h
    rename_i c2 hM2
    try dsimp only at h
    cases h
    refine callOk_of fun ho => ?_
    obtain ⟨ox1, oc0, oc1, oc2, hs, hne0, hne1, hne2⟩ := ho
    generalize (DrrSched.dec c0 (decM dkI dkI c1) (decM dkI dkI c2)) = y0 at *
    generalize (e1.map Antiphonref19Head.dec) = x1 at *
    subst ox1
    subst oc0
    subst oc1
    subst oc2
    obtain ⟨r, hr⟩ := Option.isSome_iff_exists.1 hs
    simp only [hr, Option.getD_some]
    have q := call_frame (M := M) [i0, i1, i2] (gDrrSchedChoose.can y0 x1 r hr) (by simp [hne0, hne1, hne2]) rfl (by intro k i hk; (cases k with | zero => (simp at hk; subst hk; simp [hM0, into]) | succ k => ((cases k with | zero => (simp at hk; subst hk; simp [hM1]) | succ k => ((cases k with | zero => (simp at hk; subst hk; simp [hM2]) | succ k => (simp at hk)))))))
    exact callOk_conv q trivial (by simp [into]) (by simp [frameOut, gDrrSchedChoose.out, into]) (by simp [frameOut, gDrrSchedChoose.out, into])
  · cases h

@[simp] def gDrrSchedTake.out (_x0 : DrrSched) (_x1 : Int) (r : DrrSched) : Out := { av := .tup [], M := some [.blk [.lit (.int .i64 r.fMost), .mp 1, .mp 2, .lit (.int .i64 r.fAt), .lit (.bool r.fGranted)], .mapo (encM (kI .i64) (kI .i64) r.fShare), .mapo (encM (kI .i64) (kI .i64) r.fLeft)] }
set_option maxHeartbeats 4000000 in
set_option maxRecDepth 100000 in
theorem gDrrSchedTake.can (x0 : DrrSched) (x1 : Int) (r : DrrSched) (hr : gDrrSchedTake x0 x1 = some r) : CallOk Try.prog 44 [.ptr 0 0, .lit (.int .i64 x1)] [.blk [.lit (.int .i64 x0.fMost), .mp 1, .mp 2, .lit (.int .i64 x0.fAt), .lit (.bool x0.fGranted)], .mapo (encM (kI .i64) (kI .i64) x0.fShare), .mapo (encM (kI .i64) (kI .i64) x0.fLeft)] (gDrrSchedTake.out x0 x1 r) := by
  unfold gDrrSchedTake at hr
  have hΓ := gamL_nil (P := Try.prog)
  refine call_of_awp Try.tyOk Try.func44 rfl (by kernel_rfl) rfl rfl (by simp) ?_
  intro _ _ _
  refine AWp.then ⟨[⟨24, none, .lit (.bool (pickB (pickB x0.fGranted (leqI 0 x1) false) (leqI x1 (getM eqI x0.fAt 0 x0.fLeft)) false))⟩, ⟨0, none, .ptr 0 0⟩, ⟨1, none, .lit (.int .i64 x1)⟩], [.blk [.lit (.int .i64 x0.fMost), .mp 1, .mp 2, .lit (.int .i64 x0.fAt), .lit (.bool x0.fGranted)], .mapo (encM (kI .i64) (kI .i64) x0.fShare), .mapo (encM (kI .i64) (kI .i64) x0.fLeft)]⟩ (AWp.regD Try.mixed Try.tyOk hΓ (keep := [24]) (dead := []) [] [(false, []), (false, []), (false, []), (false, []), (false, []), (false, [8]), (false, [8]), (false, []), (false, []), (false, [12]), (false, [12]), (false, [12]), (false, [12]), (false, [12]), (false, [12]), (false, [12]), (false, [12]), (false, [12]), (false, [12]), (false, [12]), (false, [])] (by kernel_rfl) rfl (by simp)) ?_
  refine AWp.cond (b := (pickB (pickB x0.fGranted (leqI 0 x1) false) (leqI x1 (getM eqI x0.fAt 0 x0.fLeft)) false)) (by simp) (fun h2 => ?_) (fun h2 => ?_)
  · have hr := cond_t h2 hr
    refine AWp.last ⟨[], [.blk [.lit (.int .i64 x0.fMost), .mp 1, .mp 2, .lit (.int .i64 x0.fAt), .lit (.bool x0.fGranted)], .mapo (encM (kI .i64) (kI .i64) x0.fShare), .mapo (encM (kI .i64) (kI .i64) (setM eqI x0.fAt (subI .i64 (getM eqI x0.fAt 0 x0.fLeft) x1) x0.fLeft))]⟩ (AWp.regD Try.mixed Try.tyOk hΓ (keep := []) (dead := [24, 0, 1]) [] [(false, []), (false, []), (false, []), (false, []), (false, []), (false, []), (false, []), (false, []), (false, []), (false, []), (false, []), (true, [])] (by kernel_rfl) rfl (by simp [h2])) ?_
    obtain rfl := some_inj hr
    refine fin_norm ?_
    simp
  · have hr := cond_f h2 hr
    refine AWp.skip ?_
    obtain rfl := some_inj hr
    refine fin_norm ?_
    simp

@[simp] noncomputable def gDrrSchedTake.S : Sp
  | [.ptr i0 0, .lit (.int .i64 x1)], M => match M[i0]? with
    | some (.blk c0) => (match nthE c0 1 with
    | some (.mp i1) => (match M[i1]? with
    | some (.mapo c1) => (match nthE c0 2 with
    | some (.mp i2) => (match M[i2]? with
    | some (.mapo c2) => (fun (y0 : DrrSched) => (fun (r : DrrSched) => some { av := .tup [], M := some (((M.set i0 (.blk [.lit (.int .i64 (r.fMost)), .mp i1, .mp i2, .lit (.int .i64 (r.fAt)), .lit (.bool (r.fGranted))])).set i1 (.mapo (encM (kI .i64) (kI .i64) (r.fShare)))).set i2 (.mapo (encM (kI .i64) (kI .i64) (r.fLeft)))), obl := c0 = DrrSched.enc y0 i1 i2 ∧ c1 = encM (kI .i64) (kI .i64) (y0.fShare) ∧ c2 = encM (kI .i64) (kI .i64) (y0.fLeft) ∧ (gDrrSchedTake y0 x1).isSome = true ∧ i0 ≠ i1 ∧ i0 ≠ i2 ∧ i1 ≠ i2 }) ((gDrrSchedTake y0 x1).getD dflt)) (DrrSched.dec c0 (decM dkI dkI c1) (decM dkI dkI c2))
    | _ => none)
    | _ => none)
    | _ => none)
    | _ => none)
    | _ => none
  | _, _ => none

set_option maxHeartbeats 1000000 in
theorem gDrrSchedTake.ok : SpecOk Try.prog 44 gDrrSchedTake.S := by
  intro l M out h
  unfold gDrrSchedTake.S at h
  split at h
  · rename_i i0 x1
    split at h
    case h_2 => cases h
    rename_i c0 hM0
    split at h
    case h_2 => cases h
    rename_i i1 he1
    split at h
    case h_2 => cases h
    rename_i c1 hM1
    split at h
    case h_2 => cases h
    rename_i i2 he2
    split at h
    case h_2 => cases h
    rename_i c2 hM2
    try dsimp only at h
    cases h
    refine callOk_of fun ho => ?_
    obtain ⟨oc0, oc1, oc2, hs, hne0, hne1, hne2⟩ := ho
    generalize (DrrSched.dec c0 (decM dkI dkI c1) (decM dkI dkI c2)) = y0 at *
    subst oc0
    subst oc1
    subst oc2
    obtain ⟨r, hr⟩ := Option.isSome_iff_exists.1 hs
    simp only [hr, Option.getD_some]
    have q := call_frame (M := M) [i0, i1, i2] (gDrrSchedTake.can y0 x1 r hr) (by simp [hne0, hne1, hne2]) rfl (by intro k i hk; (cases k with | zero => (simp at hk; subst hk; simp [hM0, into]) | succ k => ((cases k with | zero => (simp at hk; subst hk; simp [hM1]) | succ k => ((cases k with | zero => (simp at hk; subst hk; simp [hM2]) | succ k => (simp at hk)))))))
    exact callOk_conv q trivial (by simp [into]) (by simp [frameOut, gDrrSchedTake.out, into]) (by simp [frameOut, gDrrSchedTake.out, into])
  · cases h
end Go.Proofs
