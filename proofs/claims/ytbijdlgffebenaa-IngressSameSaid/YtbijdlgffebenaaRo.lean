/- That these functions compute what their plain functions do. No condition. -/
import Derived.Test.YtbijdlgffebenaaM04
import Derived.Test.YtbijdlgffebenaaTy
namespace Go.Proofs
open Go.Ab
@[simp] def gReorderConfigCheck.out (_x0 : ReorderConfig) (r : Int) : Out := { av := .lit (.int .i64 r), M := none }
set_option maxHeartbeats 4000000 in
set_option maxRecDepth 100000 in
theorem gReorderConfigCheck.can (x0 : ReorderConfig) (r : Int) (hr : gReorderConfigCheck x0 = some r) : CallOk Try.prog 21 [.agg [.lit (.int .i64 x0.fMost), .lit (.int .i64 x0.fWait)]] [] (gReorderConfigCheck.out x0 r) := by
  unfold gReorderConfigCheck at hr
  have hΓ := gamL_nil (P := Try.prog)
  refine call_of_awp Try.tyOk Try.func21 rfl (by kernel_rfl) rfl rfl (by simp) ?_
  intro _ _ _
  refine AWp.then ⟨[⟨1, none, .ptr 0 0⟩], [.blk x0.enc]⟩ (AWp.reg Try.tyOk hΓ (keep := [1]) (dead := [0]) (by kernel_rfl) rfl (by simp)) ?_
  refine AWp.seq ?_
  refine AWp.then ⟨[⟨20, none, .lit (.bool (pickB (pickB (pickB (ltI x0.fMost 1) true (ltI 1024 x0.fMost)) true (ltI x0.fWait 0)) true (ltI 1099511627776 x0.fWait)))⟩], [.blk x0.enc]⟩ (AWp.reg Try.tyOk hΓ (keep := [20]) (dead := [1]) (by kernel_rfl) rfl (by simp)) ?_
  refine AWp.cond (b := (pickB (pickB (pickB (ltI x0.fMost 1) true (ltI 1024 x0.fMost)) true (ltI x0.fWait 0)) true (ltI 1099511627776 x0.fWait))) (by simp) (fun h2 => ?_) (fun h2 => ?_)
  · have hr := cond_t h2 hr
    refine AWp.then ⟨[⟨2, none, .lit (.int .i64 5)⟩], [.blk x0.enc]⟩ (AWp.reg Try.tyOk hΓ (keep := [2]) (dead := [20]) (by kernel_rfl) rfl (by simp [h2])) ?_
    refine AWp.ret ?_
    obtain rfl := some_inj hr
    refine fin_ret ?_
    simp
  · have hr := cond_f h2 hr
    refine AWp.skip ?_
    refine AWp.then ⟨[⟨2, none, .lit (.int .i64 0)⟩], [.blk x0.enc]⟩ (AWp.reg Try.tyOk hΓ (keep := [2]) (dead := [20]) (by kernel_rfl) rfl (by simp [h2])) ?_
    refine AWp.ret ?_
    obtain rfl := some_inj hr
    refine fin_ret ?_
    simp

@[simp] noncomputable def gReorderConfigCheck.S : Sp
  | [.agg e0], _ => some { av := .lit (.int .i64 ((gReorderConfigCheck (ReorderConfig.dec e0)).getD dflt)), M := none, obl := WeakL e0 (ReorderConfig.enc (ReorderConfig.dec e0)) ∧ (gReorderConfigCheck (ReorderConfig.dec e0)).isSome = true }
  | _, _ => none

set_option maxHeartbeats 1000000 in
theorem gReorderConfigCheck.ok : SpecOk Try.prog 21 gReorderConfigCheck.S := by
  intro l M out h
  unfold gReorderConfigCheck.S at h
  split at h
  · rename_i e0
    cases h
    refine callOk_of fun ho => ?_
    obtain ⟨ox0, hs⟩ := ho
    generalize (ReorderConfig.dec e0) = x0 at *
    obtain ⟨r, hr⟩ := Option.isSome_iff_exists.1 hs
    simp only [hr, Option.getD_some]
    have q := call_frame (M := M) [] (gReorderConfigCheck.can x0 r hr) (by simp) rfl (by intro k i hk; simp at hk)
    exact callOk_conv q trivial (by simp; exact ox0) (by simp [frameOut, gReorderConfigCheck.out]) (by simp [frameOut, gReorderConfigCheck.out])
  · cases h

@[simp] def gReorderNew.out (_x0 : ReorderConfig) (r : Option ReorderBuffer × Int) : Out := { av := .tup [(optC r.1 (.lit (.pointer none)) fun _ => .ptr 2 0), .lit (.int .i64 r.2)], M := some (optC r.1 [] fun m0 => [.dead, .mapo (encM (kI .i64) (vA Antiphonref09Thing.enc) m0.fOf), .blk [.lit (.int .i64 m0.fConfig.fMost), .lit (.int .i64 m0.fConfig.fWait), .lit (.bool m0.fBegun), .lit (.int .i64 m0.fNext), .mp 1, .lit (.int .i64 m0.fLost)]]) }
set_option maxHeartbeats 4000000 in
set_option maxRecDepth 100000 in
theorem gReorderNew.can (x0 : ReorderConfig) (r : Option ReorderBuffer × Int) (hr : gReorderNew x0 = some r) : CallOk Try.prog 30 [.agg [.lit (.int .i64 x0.fMost), .lit (.int .i64 x0.fWait)]] [] (gReorderNew.out x0 r) := by
  unfold gReorderNew at hr
  have hΓ := (gamL_cons gReorderConfigCheck.ok (gamL_nil) : GamOk Try.prog _)
  refine call_of_awp Try.tyOk Try.func30 rfl (by kernel_rfl) rfl rfl (by simp) ?_
  intro _ _ _
  refine AWp.then ⟨[⟨1, none, .ptr 0 0⟩], [.blk x0.enc]⟩ (AWp.reg Try.tyOk hΓ (keep := [1]) (dead := [0]) (by kernel_rfl) rfl (by simp)) ?_
  refine AWp.seq ?_
  obtain ⟨r1, h3, hr⟩ := bind_some' hr
  refine AWp.then ⟨[⟨4, none, .lit (.int .i64 r1)⟩, ⟨1, none, .ptr 0 0⟩], [.blk x0.enc]⟩ (AWp.reg Try.tyOk hΓ (keep := [4]) (dead := []) (by kernel_rfl) rfl (by simp [h3])) ?_
  refine AWp.then ⟨[⟨8, none, .lit (.bool (neI r1 0))⟩, ⟨4, none, .lit (.int .i64 r1)⟩, ⟨1, none, .ptr 0 0⟩], [.blk x0.enc]⟩ (AWp.reg Try.tyOk hΓ (keep := [8]) (dead := []) (by kernel_rfl) rfl (by simp)) ?_
  refine AWp.cond (b := (neI r1 0)) (by simp) (fun h4 => ?_) (fun h4 => ?_)
  · have hr := cond_t h4 hr
    refine AWp.then ⟨[⟨2, none, .lit (.pointer none)⟩, ⟨3, none, .lit (.int .i64 r1)⟩], [.blk x0.enc]⟩ (AWp.reg Try.tyOk hΓ (keep := [2, 3]) (dead := [8, 4, 1]) (by kernel_rfl) rfl (by simp [h4])) ?_
    refine AWp.ret ?_
    obtain rfl := some_inj hr
    refine fin_ret ?_
    simp
  · have hr := cond_f h4 hr
    refine AWp.skip ?_
    refine AWp.then ⟨[⟨2, none, .ptr 2 0⟩, ⟨3, none, .lit (.int .i64 0)⟩], [.blk x0.enc, .mapo ([]), .blk (x0.enc ++ [.lit (.bool false), .lit (.int .i64 0), .mp 1, .lit (.int .i64 0)])]⟩ (AWp.reg Try.tyOk hΓ (keep := [2, 3]) (dead := [8, 4, 1]) (by kernel_rfl) rfl (by simp [h4])) ?_
    refine AWp.ret ?_
    obtain rfl := some_inj hr
    refine fin_ret ?_
    simp

@[simp] noncomputable def gReorderNew.S : Sp
  | [.agg e0], M => some { av := .tup [(optC (((gReorderNew (ReorderConfig.dec e0)).getD dflt).1) (.lit (.pointer none)) fun _ => .ptr (M.length + 2) 0), .lit (.int .i64 (((gReorderNew (ReorderConfig.dec e0)).getD dflt).2))], M := some (optC (((gReorderNew (ReorderConfig.dec e0)).getD dflt).1) M fun m0 => M ++ [.dead, .mapo (encM (kI .i64) (vA Antiphonref09Thing.enc) m0.fOf), .blk [.lit (.int .i64 m0.fConfig.fMost), .lit (.int .i64 m0.fConfig.fWait), .lit (.bool m0.fBegun), .lit (.int .i64 m0.fNext), .mp (M.length + 1), .lit (.int .i64 m0.fLost)]]), obl := WeakL e0 (ReorderConfig.enc (ReorderConfig.dec e0)) ∧ (gReorderNew (ReorderConfig.dec e0)).isSome = true }
  | _, _ => none

set_option maxHeartbeats 1000000 in
theorem gReorderNew.ok : SpecOk Try.prog 30 gReorderNew.S := by
  intro l M out h
  unfold gReorderNew.S at h
  split at h
  · rename_i e0
    cases h
    refine callOk_of fun ho => ?_
    obtain ⟨ox0, hs⟩ := ho
    generalize (ReorderConfig.dec e0) = x0 at *
    obtain ⟨r, hr⟩ := Option.isSome_iff_exists.1 hs
    simp only [hr, Option.getD_some]
    have q := call_frame (M := M) [] (gReorderNew.can x0 r hr) (by simp) rfl (by intro k i hk; simp at hk)
    cases hc : r.1 with
    | none => exact callOk_conv q trivial (by simp; exact ox0) (by simp [hc, frameOut, gReorderNew.out]) (by simp [hc, frameOut, gReorderNew.out])
    | some m0 => exact callOk_conv q trivial (by simp; exact ox0) (by simp [hc, frameOut, gReorderNew.out, into]) (by simp [hc, frameOut, gReorderNew.out, into])
  · cases h

@[simp] def gReorderBufferLen.out (_x0 : ReorderBuffer) (r : Int) : Out := { av := .lit (.int .i64 r), M := none }
set_option maxHeartbeats 4000000 in
set_option maxRecDepth 100000 in
theorem gReorderBufferLen.can (x0 : ReorderBuffer) (r : Int) (hr : gReorderBufferLen x0 = some r) : CallOk Try.prog 13 [.ptr 0 0] [.blk (x0.fConfig.enc ++ [.lit (.bool x0.fBegun), .lit (.int .i64 x0.fNext), .mp 1, .lit (.int .i64 x0.fLost)]), .mapo (encM (kI .i64) (vA Antiphonref09Thing.enc) x0.fOf)] (gReorderBufferLen.out x0 r) := by
  unfold gReorderBufferLen at hr
  have hΓ := gamL_nil (P := Try.prog)
  refine call_of_awp Try.tyOk Try.func13 rfl (by kernel_rfl) rfl rfl (by simp) ?_
  intro _ _ _
  refine AWp.then ⟨[⟨0, none, .ptr 0 0⟩], [.blk (x0.fConfig.enc ++ [.lit (.bool x0.fBegun), .lit (.int .i64 x0.fNext), .mp 1, .lit (.int .i64 x0.fLost)]), .mapo (encM (kI .i64) (vA Antiphonref09Thing.enc) x0.fOf)]⟩ (AWp.reg Try.tyOk hΓ (keep := []) (dead := []) (by kernel_rfl) rfl (by simp)) ?_
  refine AWp.then ⟨[⟨2, none, .lit (.int .i64 (lenL x0.fOf))⟩], [.blk (x0.fConfig.enc ++ [.lit (.bool x0.fBegun), .lit (.int .i64 x0.fNext), .mp 1, .lit (.int .i64 x0.fLost)]), .mapo (encM (kI .i64) (vA Antiphonref09Thing.enc) x0.fOf)]⟩ (AWp.reg Try.tyOk hΓ (keep := [2]) (dead := [0]) (by kernel_rfl) rfl (by simp)) ?_
  refine AWp.ret ?_
  obtain rfl := some_inj hr
  refine fin_ret ?_
  simp

@[simp] noncomputable def gReorderBufferLen.S : Sp
  | [.ptr i0 0], M => match M[i0]? with
    | some (.blk c0) => (match nthE c0 4 with
    | some (.mp i1) => (match M[i1]? with
    | some (.mapo c1) => (fun (y0 : ReorderBuffer) => some { av := .lit (.int .i64 ((gReorderBufferLen y0).getD dflt)), M := none, obl := c0 = ReorderBuffer.enc y0 i1 ∧ c1 = encM (kI .i64) (vA Antiphonref09Thing.enc) (y0.fOf) ∧ (gReorderBufferLen y0).isSome = true ∧ i0 ≠ i1 }) (ReorderBuffer.dec c0 (decM dkI (dvA Antiphonref09Thing.dec) c1))
    | _ => none)
    | _ => none)
    | _ => none
  | _, _ => none

set_option maxHeartbeats 1000000 in
theorem gReorderBufferLen.ok : SpecOk Try.prog 13 gReorderBufferLen.S := by
  intro l M out h
  unfold gReorderBufferLen.S at h
  split at h
  · rename_i i0
    split at h
    case h_2 => cases h
    rename_i c0 hM0
    split at h
    case h_2 => cases h
    rename_i i1 he1
    split at h
    case h_2 => cases h
    rename_i c1 hM1
    try dsimp only at h
    cases h
    refine callOk_of fun ho => ?_
    obtain ⟨oc0, oc1, hs, hne0⟩ := ho
    generalize (ReorderBuffer.dec c0 (decM dkI (dvA Antiphonref09Thing.dec) c1)) = y0 at *
    subst oc0
    subst oc1
    obtain ⟨r, hr⟩ := Option.isSome_iff_exists.1 hs
    simp only [hr, Option.getD_some]
    have q := call_frame (M := M) [i0, i1] (gReorderBufferLen.can y0 r hr) (by simp [hne0]) rfl (by intro k i hk; (cases k with | zero => (simp at hk; subst hk; simp [hM0, into]) | succ k => ((cases k with | zero => (simp at hk; subst hk; simp [hM1]) | succ k => (simp at hk)))))
    exact callOk_conv q trivial (by simp [into]) (by simp [frameOut, gReorderBufferLen.out, into]) (by simp only [frameOut, gReorderBufferLen.out, Option.getD_some, Option.getD_none]; simp [into, hM0, hM1, set_same])
  · cases h

@[simp] def gReorderBufferLost.out (_x0 : ReorderBuffer) (r : Int) : Out := { av := .lit (.int .i64 r), M := none }
set_option maxHeartbeats 4000000 in
set_option maxRecDepth 100000 in
theorem gReorderBufferLost.can (x0 : ReorderBuffer) (r : Int) (hr : gReorderBufferLost x0 = some r) : CallOk Try.prog 14 [.ptr 0 0] [.blk (x0.fConfig.enc ++ [.lit (.bool x0.fBegun), .lit (.int .i64 x0.fNext), .mp 1, .lit (.int .i64 x0.fLost)]), .mapo (encM (kI .i64) (vA Antiphonref09Thing.enc) x0.fOf)] (gReorderBufferLost.out x0 r) := by
  unfold gReorderBufferLost at hr
  have hΓ := gamL_nil (P := Try.prog)
  refine call_of_awp Try.tyOk Try.func14 rfl (by kernel_rfl) rfl rfl (by simp) ?_
  intro _ _ _
  refine AWp.then ⟨[⟨0, none, .ptr 0 0⟩], [.blk (x0.fConfig.enc ++ [.lit (.bool x0.fBegun), .lit (.int .i64 x0.fNext), .mp 1, .lit (.int .i64 x0.fLost)]), .mapo (encM (kI .i64) (vA Antiphonref09Thing.enc) x0.fOf)]⟩ (AWp.reg Try.tyOk hΓ (keep := []) (dead := []) (by kernel_rfl) rfl (by simp)) ?_
  refine AWp.then ⟨[⟨2, none, .lit (.int .i64 x0.fLost)⟩], [.blk (x0.fConfig.enc ++ [.lit (.bool x0.fBegun), .lit (.int .i64 x0.fNext), .mp 1, .lit (.int .i64 x0.fLost)]), .mapo (encM (kI .i64) (vA Antiphonref09Thing.enc) x0.fOf)]⟩ (AWp.reg Try.tyOk hΓ (keep := [2]) (dead := [0]) (by kernel_rfl) rfl (by simp)) ?_
  refine AWp.ret ?_
  obtain rfl := some_inj hr
  refine fin_ret ?_
  simp

@[simp] noncomputable def gReorderBufferLost.S : Sp
  | [.ptr i0 0], M => match M[i0]? with
    | some (.blk c0) => (match nthE c0 4 with
    | some (.mp i1) => (match M[i1]? with
    | some (.mapo c1) => (fun (y0 : ReorderBuffer) => some { av := .lit (.int .i64 ((gReorderBufferLost y0).getD dflt)), M := none, obl := c0 = ReorderBuffer.enc y0 i1 ∧ c1 = encM (kI .i64) (vA Antiphonref09Thing.enc) (y0.fOf) ∧ (gReorderBufferLost y0).isSome = true ∧ i0 ≠ i1 }) (ReorderBuffer.dec c0 (decM dkI (dvA Antiphonref09Thing.dec) c1))
    | _ => none)
    | _ => none)
    | _ => none
  | _, _ => none

set_option maxHeartbeats 1000000 in
theorem gReorderBufferLost.ok : SpecOk Try.prog 14 gReorderBufferLost.S := by
  intro l M out h
  unfold gReorderBufferLost.S at h
  split at h
  · rename_i i0
    split at h
    case h_2 => cases h
    rename_i c0 hM0
    split at h
    case h_2 => cases h
    rename_i i1 he1
    split at h
    case h_2 => cases h
    rename_i c1 hM1
    try dsimp only at h
    cases h
    refine callOk_of fun ho => ?_
    obtain ⟨oc0, oc1, hs, hne0⟩ := ho
    generalize (ReorderBuffer.dec c0 (decM dkI (dvA Antiphonref09Thing.dec) c1)) = y0 at *
    subst oc0
    subst oc1
    obtain ⟨r, hr⟩ := Option.isSome_iff_exists.1 hs
    simp only [hr, Option.getD_some]
    have q := call_frame (M := M) [i0, i1] (gReorderBufferLost.can y0 r hr) (by simp [hne0]) rfl (by intro k i hk; (cases k with | zero => (simp at hk; subst hk; simp [hM0, into]) | succ k => ((cases k with | zero => (simp at hk; subst hk; simp [hM1]) | succ k => (simp at hk)))))
    exact callOk_conv q trivial (by simp [into]) (by simp [frameOut, gReorderBufferLost.out, into]) (by simp only [frameOut, gReorderBufferLost.out, Option.getD_some, Option.getD_none]; simp [into, hM0, hM1, set_same])
  · cases h

@[simp] def gReorderBufferRun.out (_x0 : ReorderBuffer) (r : List Antiphonref09Thing × Nat × ReorderBuffer) : Out := { av := .sl (r.1.map Antiphonref09Thing.enc) (.own 2 r.2.1 3), M := some [.blk [.lit (.int .i64 r.2.2.fConfig.fMost), .lit (.int .i64 r.2.2.fConfig.fWait), .lit (.bool r.2.2.fBegun), .lit (.int .i64 r.2.2.fNext), .mp 1, .lit (.int .i64 r.2.2.fLost)], .mapo (encM (kI .i64) (vA Antiphonref09Thing.enc) r.2.2.fOf), .room r.2.1] }
def gReorderBufferRun.fin (x0 : ReorderBuffer) (r : List Antiphonref09Thing × Nat × ReorderBuffer) (σ : St) : Prop := finK (gReorderBufferRun.out x0 r) [.blk (x0.fConfig.enc ++ [.lit (.bool x0.fBegun), .lit (.int .i64 x0.fNext), .mp 1, .lit (.int .i64 x0.fLost)]), .mapo (encM (kI .i64) (vA Antiphonref09Thing.enc) x0.fOf)] σ.M (resA Try.ty σ.A σ.M Try.f41.results.toList)
set_option maxHeartbeats 4000000 in
set_option maxRecDepth 100000 in
theorem gReorderBufferRun.can (x0 : ReorderBuffer) (r : List Antiphonref09Thing × Nat × ReorderBuffer) (hr : gReorderBufferRun x0 = some r) : CallOk Try.prog 41 [.ptr 0 0] [.blk (x0.fConfig.enc ++ [.lit (.bool x0.fBegun), .lit (.int .i64 x0.fNext), .mp 1, .lit (.int .i64 x0.fLost)]), .mapo (encM (kI .i64) (vA Antiphonref09Thing.enc) x0.fOf)] (gReorderBufferRun.out x0 r) := by
  unfold gReorderBufferRun at hr
  have hΓ := gamL_nil (P := Try.prog)
  refine call_of_awp Try.tyOk Try.func41 rfl (by kernel_rfl) rfl rfl (by simp) ?_
  intro _ _ _
  refine AWp.then ⟨[⟨0, none, .ptr 0 0⟩], [.blk (x0.fConfig.enc ++ [.lit (.bool x0.fBegun), .lit (.int .i64 x0.fNext), .mp 1, .lit (.int .i64 x0.fLost)]), .mapo (encM (kI .i64) (vA Antiphonref09Thing.enc) x0.fOf)]⟩ (AWp.reg Try.tyOk hΓ (keep := []) (dead := []) (by kernel_rfl) rfl (by simp)) ?_
  refine AWp.then ⟨[⟨3, none, .sl [] .full⟩, ⟨0, none, .ptr 0 0⟩], [.blk (x0.fConfig.enc ++ [.lit (.bool x0.fBegun), .lit (.int .i64 x0.fNext), .mp 1, .lit (.int .i64 x0.fLost)]), .mapo (encM (kI .i64) (vA Antiphonref09Thing.enc) x0.fOf)]⟩ (AWp.reg Try.tyOk hΓ (keep := [3]) (dead := []) (by kernel_rfl) rfl (by simp)) ?_
  refine AWp.equip 3 3 (els := []) (by simp) (by simp) ?_
  refine AWp.loopE (fun (s1 : Nat × List Antiphonref09Thing × Int × (List (Int × Antiphonref09Thing))) (γ1 : Unit) => ⟨[⟨3, none, .sl (s1.2.1.map Antiphonref09Thing.enc) (.own 2 s1.1 3)⟩, ⟨0, none, .ptr 0 0⟩], [.blk (x0.fConfig.enc ++ [.lit (.bool x0.fBegun), .lit (.int .i64 s1.2.2.1), .mp 1, .lit (.int .i64 x0.fLost)]), .mapo (encM (kI .i64) (vA Antiphonref09Thing.enc) s1.2.2.2), .room s1.1]⟩) (fun (v1 : Unit) (γ1a : Unit) => ⟨[], []⟩) (gReorderBufferRun.fin x0) hr () 3 (by simp) (fun s1 f γ1 hr => ?_) (fun v1 γ1a σ1 m1 hr hc => ?_) (fun _ h => h)
  · unfold gReorderBufferRun.loop1 at hr
    refine AWp.block ?_
    refine AWp.then ⟨[⟨4, none, .ptr 3 0⟩, ⟨5, none, .lit (.bool (hasM eqI s1.2.2.1 s1.2.2.2))⟩, ⟨3, none, .sl (s1.2.1.map Antiphonref09Thing.enc) (.own 2 s1.1 3)⟩, ⟨0, none, .ptr 0 0⟩], [.blk (x0.fConfig.enc ++ [.lit (.bool x0.fBegun), .lit (.int .i64 s1.2.2.1), .mp 1, .lit (.int .i64 x0.fLost)]), .mapo (encM (kI .i64) (vA Antiphonref09Thing.enc) s1.2.2.2), .room s1.1, .blk (getM eqI s1.2.2.1 (Antiphonref09Thing.mk 0 ⟨⟨[]⟩⟩ 0) s1.2.2.2).enc]⟩ (AWp.regD Try.mixed Try.tyOk hΓ (keep := [4, 5]) (dead := []) [(0, 13), (1, 13), (2, 13), (3, 13), (4, 13), (5, 13), (6, 13), (7, 13), (8, 13), (9, 13), (10, 13), (11, 13), (11, 14)] [(false, []), (false, []), (false, []), (false, []), (false, []), (false, []), (false, []), (false, []), (false, []), (false, []), (false, []), (false, []), (true, []), (true, []), (false, [])] (by kernel_rfl) rfl (by simp)) ?_
    refine AWp.seq ?_
    refine AWp.then ⟨[⟨19, none, .lit (.bool (notB (hasM eqI s1.2.2.1 s1.2.2.2)))⟩, ⟨4, none, .ptr 3 0⟩, ⟨3, none, .sl (s1.2.1.map Antiphonref09Thing.enc) (.own 2 s1.1 3)⟩, ⟨0, none, .ptr 0 0⟩], [.blk (x0.fConfig.enc ++ [.lit (.bool x0.fBegun), .lit (.int .i64 s1.2.2.1), .mp 1, .lit (.int .i64 x0.fLost)]), .mapo (encM (kI .i64) (vA Antiphonref09Thing.enc) s1.2.2.2), .room s1.1, .blk (getM eqI s1.2.2.1 (Antiphonref09Thing.mk 0 ⟨⟨[]⟩⟩ 0) s1.2.2.2).enc]⟩ (AWp.reg Try.tyOk hΓ (keep := [19]) (dead := [5]) (by kernel_rfl) rfl (by simp)) ?_
    refine AWp.cond (b := (notB (hasM eqI s1.2.2.1 s1.2.2.2))) (by simp) (fun h3 => ?_) (fun h3 => ?_)
    · have hr := cond_t h3 hr
      refine AWp.then ⟨[⟨2, none, .sl (s1.2.1.map Antiphonref09Thing.enc) (.own 2 s1.1 3)⟩], [.blk (x0.fConfig.enc ++ [.lit (.bool x0.fBegun), .lit (.int .i64 s1.2.2.1), .mp 1, .lit (.int .i64 x0.fLost)]), .mapo (encM (kI .i64) (vA Antiphonref09Thing.enc) s1.2.2.2), .room s1.1, .blk (getM eqI s1.2.2.1 (Antiphonref09Thing.mk 0 ⟨⟨[]⟩⟩ 0) s1.2.2.2).enc]⟩ (AWp.reg Try.tyOk hΓ (keep := [2]) (dead := [19, 4, 3, 0]) (by kernel_rfl) rfl (by simp [h3])) ?_
      refine AWp.ret ?_
      obtain rfl := some_inj hr
      refine round_ret ?_
      refine fin_ret ?_
      simp
    · have hr := cond_f h3 hr
      refine AWp.skip ?_
      refine AWp.then ⟨[⟨4, none, .ptr 3 0⟩, ⟨3, none, .sl (s1.2.1.map Antiphonref09Thing.enc) (.own 2 s1.1 3)⟩, ⟨0, none, .ptr 0 0⟩], [.blk (x0.fConfig.enc ++ [.lit (.bool x0.fBegun), .lit (.int .i64 s1.2.2.1), .mp 1, .lit (.int .i64 x0.fLost)]), .mapo (encM (kI .i64) (vA Antiphonref09Thing.enc) (delM eqI s1.2.2.1 s1.2.2.2)), .room s1.1, .blk (getM eqI s1.2.2.1 (Antiphonref09Thing.mk 0 ⟨⟨[]⟩⟩ 0) s1.2.2.2).enc]⟩ (AWp.regD Try.mixed Try.tyOk hΓ (keep := []) (dead := [19]) [] [(false, []), (false, []), (false, []), (false, []), (false, []), (false, []), (false, []), (false, []), (true, [])] (by kernel_rfl) rfl (by simp [h3])) ?_
      obtain ⟨h4, hr⟩ := need_some hr
      refine AWp.then ⟨[⟨3, none, .sl ((appL s1.2.1 [(getM eqI s1.2.2.1 (Antiphonref09Thing.mk 0 ⟨⟨[]⟩⟩ 0) s1.2.2.2)]).map Antiphonref09Thing.enc) (.own 2 (s1.1 + 1) 3)⟩, ⟨0, none, .ptr 0 0⟩], [.blk (x0.fConfig.enc ++ [.lit (.bool x0.fBegun), .lit (.int .i64 s1.2.2.1), .mp 1, .lit (.int .i64 x0.fLost)]), .mapo (encM (kI .i64) (vA Antiphonref09Thing.enc) (delM eqI s1.2.2.1 s1.2.2.2)), .room (s1.1 + 1), .blk (getM eqI s1.2.2.1 (Antiphonref09Thing.mk 0 ⟨⟨[]⟩⟩ 0) s1.2.2.2).enc]⟩ (AWp.reg Try.tyOk hΓ (keep := [3]) (dead := [4]) (by kernel_rfl) rfl (by simp [h4])) ?_
      refine AWp.last ⟨[⟨3, none, .sl ((appL s1.2.1 [(getM eqI s1.2.2.1 (Antiphonref09Thing.mk 0 ⟨⟨[]⟩⟩ 0) s1.2.2.2)]).map Antiphonref09Thing.enc) (.own 2 (s1.1 + 1) 3)⟩, ⟨0, none, .ptr 0 0⟩], [.blk (x0.fConfig.enc ++ [.lit (.bool x0.fBegun), .lit (.int .i64 (addI .i64 s1.2.2.1 1)), .mp 1, .lit (.int .i64 x0.fLost)]), .mapo (encM (kI .i64) (vA Antiphonref09Thing.enc) (delM eqI s1.2.2.1 s1.2.2.2)), .room (s1.1 + 1), .blk (getM eqI s1.2.2.1 (Antiphonref09Thing.mk 0 ⟨⟨[]⟩⟩ 0) s1.2.2.2).enc]⟩ (AWp.reg Try.tyOk hΓ (keep := []) (dead := []) (by kernel_rfl) rfl (by simp)) ?_
      obtain rfl := some_inj hr
      exact round_go () 3 (by first | (simp; done) | simp [h3, h4])
  · cases hr

@[simp] noncomputable def gReorderBufferRun.S : Sp
  | [.ptr i0 0], M => match M[i0]? with
    | some (.blk c0) => (match nthE c0 4 with
    | some (.mp i1) => (match M[i1]? with
    | some (.mapo c1) => (fun (y0 : ReorderBuffer) => (fun (r : List Antiphonref09Thing × Nat × ReorderBuffer) => some { av := .sl ((r.1).map Antiphonref09Thing.enc) (.own M.length (r.2.1) 3), M := some (((M.set i0 (.blk [.lit (.int .i64 (r.2.2.fConfig.fMost)), .lit (.int .i64 (r.2.2.fConfig.fWait)), .lit (.bool (r.2.2.fBegun)), .lit (.int .i64 (r.2.2.fNext)), .mp i1, .lit (.int .i64 (r.2.2.fLost))])).set i1 (.mapo (encM (kI .i64) (vA Antiphonref09Thing.enc) (r.2.2.fOf)))) ++ [.room (r.2.1)]), obl := c0 = ReorderBuffer.enc y0 i1 ∧ c1 = encM (kI .i64) (vA Antiphonref09Thing.enc) (y0.fOf) ∧ (gReorderBufferRun y0).isSome = true ∧ i0 ≠ i1 }) ((gReorderBufferRun y0).getD dflt)) (ReorderBuffer.dec c0 (decM dkI (dvA Antiphonref09Thing.dec) c1))
    | _ => none)
    | _ => none)
    | _ => none
  | _, _ => none

set_option maxHeartbeats 1000000 in
theorem gReorderBufferRun.ok : SpecOk Try.prog 41 gReorderBufferRun.S := by
  intro l M out h
  unfold gReorderBufferRun.S at h
  split at h
  · rename_i i0
    split at h
    case h_2 => cases h
    rename_i c0 hM0
    split at h
    case h_2 => cases h
    rename_i i1 he1
    split at h
    case h_2 => cases h
    rename_i c1 hM1
    try dsimp only at h
    cases h
    refine callOk_of fun ho => ?_
    obtain ⟨oc0, oc1, hs, hne0⟩ := ho
    generalize (ReorderBuffer.dec c0 (decM dkI (dvA Antiphonref09Thing.dec) c1)) = y0 at *
    subst oc0
    subst oc1
    obtain ⟨r, hr⟩ := Option.isSome_iff_exists.1 hs
    simp only [hr, Option.getD_some]
    have q := call_frame (M := M) [i0, i1] (gReorderBufferRun.can y0 r hr) (by simp [hne0]) rfl (by intro k i hk; (cases k with | zero => (simp at hk; subst hk; simp [hM0, into]) | succ k => ((cases k with | zero => (simp at hk; subst hk; simp [hM1]) | succ k => (simp at hk)))))
    exact callOk_conv q trivial (by simp [into]) (by simp [frameOut, gReorderBufferRun.out, into]) (by simp [frameOut, gReorderBufferRun.out, into])
  · cases h
end Go.Proofs
