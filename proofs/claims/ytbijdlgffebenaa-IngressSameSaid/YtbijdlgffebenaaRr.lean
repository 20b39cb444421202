/- That these functions compute what their plain functions do. No condition. -/
import Derived.Test.YtbijdlgffebenaaM04
import Derived.Test.YtbijdlgffebenaaTy
import Derived.Test.YtbijdlgffebenaaM03
import Derived.Test.YtbijdlgffebenaaRo
namespace Go.Proofs
open Go.Ab
@[simp] def gReorderBufferFirst.out (_x0 : ReorderBuffer) (r : Int) : Out := { av := .lit (.int .i64 r), M := none }
set_option maxHeartbeats 4000000 in
set_option maxRecDepth 100000 in
theorem gReorderBufferFirst.can (x0 : ReorderBuffer) (r : Int) (hr : gReorderBufferFirst x0 = some r) : CallOk Try.prog 45 [.ptr 0 0] [.blk (x0.fConfig.enc ++ [.lit (.bool x0.fBegun), .lit (.int .i64 x0.fNext), .mp 1, .lit (.int .i64 x0.fLost)]), .mapo (encM (kI .i64) (vA Antiphonref09Thing.enc) x0.fOf)] (gReorderBufferFirst.out x0 r) := by
  unfold gReorderBufferFirst at hr
  have hΓ := (gamL_cons libKeys.gMapsKeysMapInt64ReorderThingInt64ReorderThing.ok (gamL_cons libCollect.gSlicesCollectInt64.ok (gamL_cons libMin.gSlicesMinInt64Int64.ok (gamL_nil))) : GamOk Try.prog _)
  refine call_of_awp Try.tyOk Try.func45 rfl (by kernel_rfl) rfl rfl (by simp) ?_
  intro _ _ _
  refine AWp.then ⟨[⟨0, none, .ptr 0 0⟩], [.blk (x0.fConfig.enc ++ [.lit (.bool x0.fBegun), .lit (.int .i64 x0.fNext), .mp 1, .lit (.int .i64 x0.fLost)]), .mapo (encM (kI .i64) (vA Antiphonref09Thing.enc) x0.fOf)]⟩ (AWp.reg Try.tyOk hΓ (keep := []) (dead := []) (by kernel_rfl) rfl (by simp)) ?_
  obtain ⟨h3, hr⟩ := need_some hr
  obtain ⟨h4, hr⟩ := need_some hr
  refine AWp.then ⟨[⟨2, none, .lit (.int .i64 (minL (keysM x0.fOf)))⟩], [.blk (x0.fConfig.enc ++ [.lit (.bool x0.fBegun), .lit (.int .i64 x0.fNext), .mp 1, .lit (.int .i64 x0.fLost)]), .mapo (encM (kI .i64) (vA Antiphonref09Thing.enc) x0.fOf)]⟩ (AWp.reg Try.tyOk hΓ (keep := [2]) (dead := [0]) (by kernel_rfl) rfl (by simp [h3, h4])) ?_
  refine AWp.ret ?_
  obtain rfl := some_inj hr
  refine fin_ret ?_
  simp

@[simp] noncomputable def gReorderBufferFirst.S : Sp
  | [.ptr i0 0], M => match M[i0]? with
    | some (.blk c0) => (match nthE c0 4 with
    | some (.mp i1) => (match M[i1]? with
    | some (.mapo c1) => (fun (y0 : ReorderBuffer) => some { av := .lit (.int .i64 ((gReorderBufferFirst y0).getD dflt)), M := none, obl := c0 = ReorderBuffer.enc y0 i1 ∧ c1 = encM (kI .i64) (vA Antiphonref09Thing.enc) (y0.fOf) ∧ (gReorderBufferFirst y0).isSome = true ∧ i0 ≠ i1 }) (ReorderBuffer.dec c0 (decM dkI (dvA Antiphonref09Thing.dec) c1))
    | _ => none)
    | _ => none)
    | _ => none
  | _, _ => none

set_option maxHeartbeats 1000000 in
theorem gReorderBufferFirst.ok : SpecOk Try.prog 45 gReorderBufferFirst.S := by
  intro l M out h
  unfold gReorderBufferFirst.S at h
  split at h
  · rename_i i0
    split at h
    case h_2 => cases h
    rename_i c0 hM0
    split at h
    case h_2 => cases h
    rename_i i1 he1
    split at h
    case h_2 => cases h
    rename_i c1 hM1
    try dsimp only at h
    cases h
    refine callOk_of fun ho => ?_
    obtain ⟨oc0, oc1, hs, hne0⟩ := ho
    generalize (ReorderBuffer.dec c0 (decM dkI (dvA Antiphonref09Thing.dec) c1)) = y0 at *
    subst oc0
    subst oc1
    obtain ⟨r, hr⟩ := Option.isSome_iff_exists.1 hs
    simp only [hr, Option.getD_some]
    have q := call_frame (M := M) [i0, i1] (gReorderBufferFirst.can y0 r hr) (by simp [hne0]) rfl (by intro k i hk; (cases k with | zero => (simp at hk; subst hk; simp [hM0, into]) | succ k => ((cases k with | zero => (simp at hk; subst hk; simp [hM1]) | succ k => (simp at hk)))))
    exact callOk_conv q trivial (by simp [into]) (by simp [frameOut, gReorderBufferFirst.out, into]) (by simp only [frameOut, gReorderBufferFirst.out, Option.getD_some, Option.getD_none]; simp [into, hM0, hM1, set_same])
  · cases h

@[simp] def gReorderBufferSkip.out (_x0 : ReorderBuffer) (r : List Antiphonref09Thing × Nat × ReorderBuffer) : Out := { av := .sl (r.1.map Antiphonref09Thing.enc) (.own 2 r.2.1 3), M := some [.blk [.lit (.int .i64 r.2.2.fConfig.fMost), .lit (.int .i64 r.2.2.fConfig.fWait), .lit (.bool r.2.2.fBegun), .lit (.int .i64 r.2.2.fNext), .mp 1, .lit (.int .i64 r.2.2.fLost)], .mapo (encM (kI .i64) (vA Antiphonref09Thing.enc) r.2.2.fOf), .room r.2.1] }
set_option maxHeartbeats 4000000 in
set_option maxRecDepth 100000 in
theorem gReorderBufferSkip.can (x0 : ReorderBuffer) (r : List Antiphonref09Thing × Nat × ReorderBuffer) (hr : gReorderBufferSkip x0 = some r) : CallOk Try.prog 42 [.ptr 0 0] [.blk (x0.fConfig.enc ++ [.lit (.bool x0.fBegun), .lit (.int .i64 x0.fNext), .mp 1, .lit (.int .i64 x0.fLost)]), .mapo (encM (kI .i64) (vA Antiphonref09Thing.enc) x0.fOf)] (gReorderBufferSkip.out x0 r) := by
  unfold gReorderBufferSkip at hr
  have hΓ := (gamL_cons gReorderBufferFirst.ok (gamL_cons gReorderBufferRun.ok (gamL_nil)) : GamOk Try.prog _)
  refine call_of_awp Try.tyOk Try.func42 rfl (by kernel_rfl) rfl rfl (by simp) ?_
  intro _ _ _
  refine AWp.then ⟨[⟨0, none, .ptr 0 0⟩], [.blk (x0.fConfig.enc ++ [.lit (.bool x0.fBegun), .lit (.int .i64 x0.fNext), .mp 1, .lit (.int .i64 x0.fLost)]), .mapo (encM (kI .i64) (vA Antiphonref09Thing.enc) x0.fOf)]⟩ (AWp.reg Try.tyOk hΓ (keep := []) (dead := []) (by kernel_rfl) rfl (by simp)) ?_
  obtain ⟨r1, h3, hr⟩ := bind_some' hr
  refine AWp.then ⟨[⟨3, none, .lit (.int .i64 r1)⟩, ⟨0, none, .ptr 0 0⟩], [.blk (x0.fConfig.enc ++ [.lit (.bool x0.fBegun), .lit (.int .i64 x0.fNext), .mp 1, .lit (.int .i64 x0.fLost)]), .mapo (encM (kI .i64) (vA Antiphonref09Thing.enc) x0.fOf)]⟩ (AWp.reg Try.tyOk hΓ (keep := [3]) (dead := []) (by kernel_rfl) rfl (by simp [h3])) ?_
  refine AWp.then ⟨[⟨3, none, .lit (.int .i64 r1)⟩, ⟨0, none, .ptr 0 0⟩], [.blk (x0.fConfig.enc ++ [.lit (.bool x0.fBegun), .lit (.int .i64 x0.fNext), .mp 1, .lit (.int .i64 (addI .i64 x0.fLost (subI .i64 r1 x0.fNext)))]), .mapo (encM (kI .i64) (vA Antiphonref09Thing.enc) x0.fOf)]⟩ (AWp.regD Try.mixed Try.tyOk hΓ (keep := []) (dead := []) [] [(false, []), (false, []), (false, []), (false, []), (false, []), (false, []), (false, []), (false, []), (false, []), (false, []), (false, []), (false, []), (false, []), (true, [])] (by kernel_rfl) rfl (by simp)) ?_
  refine AWp.then ⟨[⟨0, none, .ptr 0 0⟩], [.blk (x0.fConfig.enc ++ [.lit (.bool x0.fBegun), .lit (.int .i64 r1), .mp 1, .lit (.int .i64 (addI .i64 x0.fLost (subI .i64 r1 x0.fNext)))]), .mapo (encM (kI .i64) (vA Antiphonref09Thing.enc) x0.fOf)]⟩ (AWp.reg Try.tyOk hΓ (keep := []) (dead := [3]) (by kernel_rfl) rfl (by simp)) ?_
  obtain ⟨r2, h4, hr⟩ := bind_some' hr
  refine AWp.then ⟨[⟨2, none, .sl (r2.1.map Antiphonref09Thing.enc) (.own 2 r2.2.1 3)⟩], [.blk (r2.2.2.fConfig.enc ++ [.lit (.bool r2.2.2.fBegun), .lit (.int .i64 r2.2.2.fNext), .mp 1, .lit (.int .i64 r2.2.2.fLost)]), .mapo (encM (kI .i64) (vA Antiphonref09Thing.enc) r2.2.2.fOf), .room r2.2.1]⟩ (AWp.reg Try.tyOk hΓ (keep := [2]) (dead := [0]) (by kernel_rfl) rfl (by simp [h4])) ?_
  refine AWp.ret ?_
  obtain rfl := some_inj hr
  refine fin_ret ?_
  simp

@[simp] noncomputable def gReorderBufferSkip.S : Sp
  | [.ptr i0 0], M => match M[i0]? with
    | some (.blk c0) => (match nthE c0 4 with
    | some (.mp i1) => (match M[i1]? with
    | some (.mapo c1) => (fun (y0 : ReorderBuffer) => (fun (r : List Antiphonref09Thing × Nat × ReorderBuffer) => some { av := .sl ((r.1).map Antiphonref09Thing.enc) (.own M.length (r.2.1) 3), M := some (((M.set i0 (.blk [.lit (.int .i64 (r.2.2.fConfig.fMost)), .lit (.int .i64 (r.2.2.fConfig.fWait)), .lit (.bool (r.2.2.fBegun)), .lit (.int .i64 (r.2.2.fNext)), .mp i1, .lit (.int .i64 (r.2.2.fLost))])).set i1 (.mapo (encM (kI .i64) (vA Antiphonref09Thing.enc) (r.2.2.fOf)))) ++ [.room (r.2.1)]), obl := c0 = ReorderBuffer.enc y0 i1 ∧ c1 = encM (kI .i64) (vA Antiphonref09Thing.enc) (y0.fOf) ∧ (gReorderBufferSkip y0).isSome = true ∧ i0 ≠ i1 }) ((gReorderBufferSkip y0).getD dflt)) (ReorderBuffer.dec c0 (decM dkI (dvA Antiphonref09Thing.dec) c1))
    | _ => none)
    | _ => none)
    | _ => none
  | _, _ => none

set_option maxHeartbeats 1000000 in
theorem gReorderBufferSkip.ok : SpecOk Try.prog 42 gReorderBufferSkip.S := by
  intro l M out h
  unfold gReorderBufferSkip.S at h
  split at h
  · rename_i i0
    split at h
    case h_2 => cases h
    rename_i c0 hM0
    split at h
    case h_2 => cases h
    rename_i i1 he1
    split at h
    case h_2 => cases h
    rename_i c1 hM1
    try dsimp only at h
    cases h
    refine callOk_of fun ho => ?_
    obtain ⟨oc0, oc1, hs, hne0⟩ := ho
    generalize (ReorderBuffer.dec c0 (decM dkI (dvA Antiphonref09Thing.dec) c1)) = y0 at *
    subst oc0
    subst oc1
    obtain ⟨r, hr⟩ := Option.isSome_iff_exists.1 hs
    simp only [hr, Option.getD_some]
    have q := call_frame (M := M) [i0, i1] (gReorderBufferSkip.can y0 r hr) (by simp [hne0]) rfl (by intro k i hk; (cases k with | zero => (simp at hk; subst hk; simp [hM0, into]) | succ k => ((cases k with | zero => (simp at hk; subst hk; simp [hM1]) | succ k => (simp at hk)))))
    exact callOk_conv q trivial (by simp [into]) (by simp [frameOut, gReorderBufferSkip.out, into]) (by simp [frameOut, gReorderBufferSkip.out, into])
  · cases h

@[simp] def gReorderBufferPut.out (_x0 : ReorderBuffer) (_x1 : Antiphonref09Thing) (r : List Antiphonref09Thing × Int × ReorderBuffer) : Out := { av := .tup [.sl (r.1.map Antiphonref09Thing.enc) .no, .lit (.int .i64 r.2.1)], M := some [.blk [.lit (.int .i64 r.2.2.fConfig.fMost), .lit (.int .i64 r.2.2.fConfig.fWait), .lit (.bool r.2.2.fBegun), .lit (.int .i64 r.2.2.fNext), .mp 1, .lit (.int .i64 r.2.2.fLost)], .mapo (encM (kI .i64) (vA Antiphonref09Thing.enc) r.2.2.fOf)] }
def gReorderBufferPut.fin (x0 : ReorderBuffer) (x1 : Antiphonref09Thing) (r : List Antiphonref09Thing × Int × ReorderBuffer) (σ : St) : Prop := finK (gReorderBufferPut.out x0 x1 r) [.blk (x0.fConfig.enc ++ [.lit (.bool x0.fBegun), .lit (.int .i64 x0.fNext), .mp 1, .lit (.int .i64 x0.fLost)]), .mapo (encM (kI .i64) (vA Antiphonref09Thing.enc) x0.fOf)] σ.M (resA Try.ty σ.A σ.M Try.f27.results.toList)
set_option maxHeartbeats 4000000 in
set_option maxRecDepth 100000 in
theorem gReorderBufferPut.can (x0 : ReorderBuffer) (x1 : Antiphonref09Thing) (r : List Antiphonref09Thing × Int × ReorderBuffer) (hr : gReorderBufferPut x0 x1 = some r) : CallOk Try.prog 27 [.ptr 0 0, .agg [.lit (.int .i64 x1.fAt), .lit (.string x1.fText), .lit (.int .i64 x1.fTick)]] [.blk (x0.fConfig.enc ++ [.lit (.bool x0.fBegun), .lit (.int .i64 x0.fNext), .mp 1, .lit (.int .i64 x0.fLost)]), .mapo (encM (kI .i64) (vA Antiphonref09Thing.enc) x0.fOf)] (gReorderBufferPut.out x0 x1 r) := by
  unfold gReorderBufferPut at hr
  have hΓ := (gamL_cons gReorderBufferRun.ok (gamL_cons gReorderBufferSkip.ok (gamL_nil)) : GamOk Try.prog _)
  refine call_of_awp Try.tyOk Try.func27 rfl (by kernel_rfl) rfl rfl (by simp) ?_
  intro _ _ _
  refine AWp.then ⟨[⟨3, none, .ptr 2 0⟩, ⟨0, none, .ptr 0 0⟩], [.blk (x0.fConfig.enc ++ [.lit (.bool x0.fBegun), .lit (.int .i64 x0.fNext), .mp 1, .lit (.int .i64 x0.fLost)]), .mapo (encM (kI .i64) (vA Antiphonref09Thing.enc) x0.fOf), .blk x1.enc]⟩ (AWp.reg Try.tyOk hΓ (keep := [3]) (dead := [1]) (by kernel_rfl) rfl (by simp)) ?_
  refine AWp.meetF (fun (v1 : Bool × Int) (γ1 : Unit) => ⟨[⟨3, none, .ptr 2 0⟩, ⟨0, none, .ptr 0 0⟩], [.blk (x0.fConfig.enc ++ [.lit (.bool v1.1), .lit (.int .i64 v1.2), .mp 1, .lit (.int .i64 x0.fLost)]), .mapo (encM (kI .i64) (vA Antiphonref09Thing.enc) x0.fOf), .blk x1.enc]⟩) (gReorderBufferPut.fin x0 x1) hr (fun f hr => ?_) (fun v1 γ1 hr => ?_) (fun _ h => h)
  · refine AWp.then ⟨[⟨13, none, .lit (.bool (notB x0.fBegun))⟩, ⟨3, none, .ptr 2 0⟩, ⟨0, none, .ptr 0 0⟩], [.blk (x0.fConfig.enc ++ [.lit (.bool x0.fBegun), .lit (.int .i64 x0.fNext), .mp 1, .lit (.int .i64 x0.fLost)]), .mapo (encM (kI .i64) (vA Antiphonref09Thing.enc) x0.fOf), .blk x1.enc]⟩ (AWp.reg Try.tyOk hΓ (keep := [13]) (dead := []) (by kernel_rfl) rfl (by simp)) ?_
    refine AWp.cond (b := (notB x0.fBegun)) (by simp) (fun h8 => ?_) (fun h8 => ?_)
    · have hr := cond_t h8 hr
      refine AWp.last ⟨[⟨3, none, .ptr 2 0⟩, ⟨0, none, .ptr 0 0⟩], [.blk (x0.fConfig.enc ++ [.lit (.bool true), .lit (.int .i64 x1.fAt), .mp 1, .lit (.int .i64 x0.fLost)]), .mapo (encM (kI .i64) (vA Antiphonref09Thing.enc) x0.fOf), .blk x1.enc]⟩ (AWp.regD Try.mixed Try.tyOk hΓ (keep := []) (dead := [13]) [(1, 7), (2, 7), (3, 7)] [(false, []), (false, []), (false, []), (false, []), (false, []), (false, []), (true, []), (false, []), (false, []), (true, [])] (by kernel_rfl) rfl (by simp [h8])) ?_
      obtain rfl := some_inj hr
      exact meet_go () 3 (by first | (simp; done) | simp [h8])
    · have hr := cond_f h8 hr
      refine AWp.skip ?_
      obtain rfl := some_inj hr
      exact meet_go () 3 (by first | (simp; done) | simp [h8])
  · refine AWp.seq ?_
    refine AWp.then ⟨[⟨28, none, .lit (.bool (ltI x1.fAt v1.2))⟩, ⟨3, none, .ptr 2 0⟩, ⟨0, none, .ptr 0 0⟩], [.blk (x0.fConfig.enc ++ [.lit (.bool v1.1), .lit (.int .i64 v1.2), .mp 1, .lit (.int .i64 x0.fLost)]), .mapo (encM (kI .i64) (vA Antiphonref09Thing.enc) x0.fOf), .blk x1.enc]⟩ (AWp.regD Try.mixed Try.tyOk hΓ (keep := [28]) (dead := []) [] [(false, []), (false, []), (false, []), (false, []), (false, []), (false, []), (false, [])] (by kernel_rfl) rfl (by simp)) ?_
    refine AWp.cond (b := (ltI x1.fAt v1.2)) (by simp) (fun h9 => ?_) (fun h9 => ?_)
    · have hr := cond_t h9 hr
      refine AWp.then ⟨[⟨4, none, .sl [] .full⟩, ⟨5, none, .lit (.int .i64 13)⟩], [.blk (x0.fConfig.enc ++ [.lit (.bool v1.1), .lit (.int .i64 v1.2), .mp 1, .lit (.int .i64 x0.fLost)]), .mapo (encM (kI .i64) (vA Antiphonref09Thing.enc) x0.fOf), .blk x1.enc]⟩ (AWp.reg Try.tyOk hΓ (keep := [4, 5]) (dead := [28, 3, 0]) (by kernel_rfl) rfl (by simp [h9])) ?_
      refine AWp.ret ?_
      obtain rfl := some_inj hr
      refine fin_ret ?_
      simp
    · have hr := cond_f h9 hr
      refine AWp.skip ?_
      refine AWp.seq ?_
      refine AWp.then ⟨[⟨7, none, .lit (.bool (hasM eqI x1.fAt x0.fOf))⟩, ⟨3, none, .ptr 2 0⟩, ⟨0, none, .ptr 0 0⟩], [.blk (x0.fConfig.enc ++ [.lit (.bool v1.1), .lit (.int .i64 v1.2), .mp 1, .lit (.int .i64 x0.fLost)]), .mapo (encM (kI .i64) (vA Antiphonref09Thing.enc) x0.fOf), .blk x1.enc, .blk (getM eqI x1.fAt (Antiphonref09Thing.mk 0 ⟨⟨[]⟩⟩ 0) x0.fOf).enc]⟩ (AWp.regD Try.mixed Try.tyOk hΓ (keep := [7]) (dead := [28]) [(0, 11), (1, 11), (2, 11), (3, 11), (4, 11), (5, 11), (6, 11), (7, 11), (8, 11), (9, 11), (9, 12)] [(false, []), (false, []), (false, []), (false, []), (false, []), (false, []), (false, []), (false, []), (false, []), (false, []), (true, []), (true, []), (false, [])] (by kernel_rfl) rfl (by simp [h9])) ?_
      refine AWp.then ⟨[⟨39, none, .lit (.bool (hasM eqI x1.fAt x0.fOf))⟩, ⟨3, none, .ptr 2 0⟩, ⟨0, none, .ptr 0 0⟩], [.blk (x0.fConfig.enc ++ [.lit (.bool v1.1), .lit (.int .i64 v1.2), .mp 1, .lit (.int .i64 x0.fLost)]), .mapo (encM (kI .i64) (vA Antiphonref09Thing.enc) x0.fOf), .blk x1.enc, .blk (getM eqI x1.fAt (Antiphonref09Thing.mk 0 ⟨⟨[]⟩⟩ 0) x0.fOf).enc]⟩ (AWp.reg Try.tyOk hΓ (keep := [39]) (dead := [7]) (by kernel_rfl) rfl (by simp)) ?_
      refine AWp.cond (b := (hasM eqI x1.fAt x0.fOf)) (by simp) (fun h10 => ?_) (fun h10 => ?_)
      · have hr := cond_t h10 hr
        refine AWp.then ⟨[⟨4, none, .sl [] .full⟩, ⟨5, none, .lit (.int .i64 14)⟩], [.blk (x0.fConfig.enc ++ [.lit (.bool v1.1), .lit (.int .i64 v1.2), .mp 1, .lit (.int .i64 x0.fLost)]), .mapo (encM (kI .i64) (vA Antiphonref09Thing.enc) x0.fOf), .blk x1.enc, .blk (getM eqI x1.fAt (Antiphonref09Thing.mk 0 ⟨⟨[]⟩⟩ 0) x0.fOf).enc]⟩ (AWp.reg Try.tyOk hΓ (keep := [4, 5]) (dead := [39, 3, 0]) (by kernel_rfl) rfl (by simp [h10])) ?_
        refine AWp.ret ?_
        obtain rfl := some_inj hr
        refine fin_ret ?_
        simp
      · have hr := cond_f h10 hr
        refine AWp.skip ?_
        refine AWp.then ⟨[⟨0, none, .ptr 0 0⟩], [.blk (x0.fConfig.enc ++ [.lit (.bool v1.1), .lit (.int .i64 v1.2), .mp 1, .lit (.int .i64 x0.fLost)]), .mapo (encM (kI .i64) (vA Antiphonref09Thing.enc) (setM eqI x1.fAt x1 x0.fOf)), .blk x1.enc, .blk (getM eqI x1.fAt (Antiphonref09Thing.mk 0 ⟨⟨[]⟩⟩ 0) x0.fOf).enc]⟩ (AWp.regD Try.mixed Try.tyOk hΓ (keep := []) (dead := [39, 3]) [] [(false, []), (false, []), (false, []), (false, []), (false, []), (false, []), (false, []), (true, [])] (by kernel_rfl) rfl (by simp [h10])) ?_
        obtain ⟨r1, h11, hr⟩ := bind_some' hr
        refine AWp.then ⟨[⟨8, none, .sl (r1.1.map Antiphonref09Thing.enc) (.own 4 r1.2.1 3)⟩, ⟨0, none, .ptr 0 0⟩], [.blk (r1.2.2.fConfig.enc ++ [.lit (.bool r1.2.2.fBegun), .lit (.int .i64 r1.2.2.fNext), .mp 1, .lit (.int .i64 r1.2.2.fLost)]), .mapo (encM (kI .i64) (vA Antiphonref09Thing.enc) r1.2.2.fOf), .blk x1.enc, .blk (getM eqI x1.fAt (Antiphonref09Thing.mk 0 ⟨⟨[]⟩⟩ 0) x0.fOf).enc, .room r1.2.1]⟩ (AWp.reg Try.tyOk hΓ (keep := [8]) (dead := []) (by kernel_rfl) rfl (by simp [h11])) ?_
        refine AWp.loopB (fun (s2 : List Antiphonref09Thing × ReorderConfig × Bool × Int × Int × (List (Int × Antiphonref09Thing))) (γ2 : Nat) => ⟨[⟨8, none, .sl (s2.1.map Antiphonref09Thing.enc) (.own 4 (γ2) 3)⟩, ⟨0, none, .ptr 0 0⟩], [.blk (s2.2.1.enc ++ [.lit (.bool s2.2.2.1), .lit (.int .i64 s2.2.2.2.1), .mp 1, .lit (.int .i64 s2.2.2.2.2.1)]), .mapo (encM (kI .i64) (vA Antiphonref09Thing.enc) s2.2.2.2.2.2), .blk x1.enc, .blk (getM eqI x1.fAt (Antiphonref09Thing.mk 0 ⟨⟨[]⟩⟩ 0) x0.fOf).enc, .room (γ2)]⟩) (fun (v2 : List Antiphonref09Thing × ReorderConfig × Bool × Int × Int × (List (Int × Antiphonref09Thing))) (γ2a : Nat) => ⟨[⟨8, none, .sl (v2.1.map Antiphonref09Thing.enc) (.own 4 (γ2a) 3)⟩], [.blk (v2.2.1.enc ++ [.lit (.bool v2.2.2.1), .lit (.int .i64 v2.2.2.2.1), .mp 1, .lit (.int .i64 v2.2.2.2.2.1)]), .mapo (encM (kI .i64) (vA Antiphonref09Thing.enc) v2.2.2.2.2.2), .blk x1.enc, .blk (getM eqI x1.fAt (Antiphonref09Thing.mk 0 ⟨⟨[]⟩⟩ 0) x0.fOf).enc, .room (γ2a)]⟩) (gReorderBufferPut.fin x0 x1) hr r1.2.1 5 (by simp) (fun s2 f γ2 hr => ?_) (fun v2 γ2a hr => ?_) (fun _ h => h)
        · unfold gReorderBufferPut.loop2 at hr
          refine AWp.seq ?_
          refine AWp.then ⟨[⟨59, none, .lit (.bool (ltI s2.2.1.fMost (lenL s2.2.2.2.2.2)))⟩, ⟨8, none, .sl (s2.1.map Antiphonref09Thing.enc) (.own 4 (γ2) 3)⟩, ⟨0, none, .ptr 0 0⟩], [.blk (s2.2.1.enc ++ [.lit (.bool s2.2.2.1), .lit (.int .i64 s2.2.2.2.1), .mp 1, .lit (.int .i64 s2.2.2.2.2.1)]), .mapo (encM (kI .i64) (vA Antiphonref09Thing.enc) s2.2.2.2.2.2), .blk x1.enc, .blk (getM eqI x1.fAt (Antiphonref09Thing.mk 0 ⟨⟨[]⟩⟩ 0) x0.fOf).enc, .room (γ2)]⟩ (AWp.regD Try.mixed Try.tyOk hΓ (keep := [59]) (dead := []) [] [(false, []), (false, []), (false, []), (false, []), (false, []), (false, []), (false, []), (false, []), (false, []), (false, []), (false, [])] (by kernel_rfl) rfl (by simp)) ?_
          refine AWp.cond (b := (ltI s2.2.1.fMost (lenL s2.2.2.2.2.2))) (by simp) (fun h12 => ?_) (fun h12 => ?_)
          · have hr := cond_t h12 hr
            refine AWp.skip ?_
            refine AWp.block ?_
            obtain ⟨r2, h13, hr⟩ := bind_some' hr
            obtain ⟨h14, hr⟩ := need_some hr
            refine AWp.last ⟨[⟨8, none, .sl ((appL s2.1 r2.1).map Antiphonref09Thing.enc) (.own 4 (γ2 + 1) 3)⟩, ⟨0, none, .ptr 0 0⟩], [.blk (r2.2.2.fConfig.enc ++ [.lit (.bool r2.2.2.fBegun), .lit (.int .i64 r2.2.2.fNext), .mp 1, .lit (.int .i64 r2.2.2.fLost)]), .mapo (encM (kI .i64) (vA Antiphonref09Thing.enc) r2.2.2.fOf), .blk x1.enc, .blk (getM eqI x1.fAt (Antiphonref09Thing.mk 0 ⟨⟨[]⟩⟩ 0) x0.fOf).enc, .room (γ2 + 1), .room r2.2.1]⟩ (AWp.reg Try.tyOk hΓ (keep := [8]) (dead := [59]) (by kernel_rfl) rfl (by simp [h12, h13, h14])) ?_
            obtain rfl := some_inj hr
            exact round_go (γ2 + 1) 5 (by first | (simp; done) | simp [h9, h10, h11, h12, h13, h14])
          · have hr := cond_f h12 hr
            refine AWp.exit ?_
            obtain rfl := some_inj hr
            exact round_out (γ2) 5 (by first | (simp; done) | simp [h9, h10, h11, h12])
        · refine AWp.then ⟨[⟨4, none, .sl (v2.1.map Antiphonref09Thing.enc) (.own 4 (γ2a) 3)⟩, ⟨5, none, .lit (.int .i64 0)⟩], [.blk (v2.2.1.enc ++ [.lit (.bool v2.2.2.1), .lit (.int .i64 v2.2.2.2.1), .mp 1, .lit (.int .i64 v2.2.2.2.2.1)]), .mapo (encM (kI .i64) (vA Antiphonref09Thing.enc) v2.2.2.2.2.2), .blk x1.enc, .blk (getM eqI x1.fAt (Antiphonref09Thing.mk 0 ⟨⟨[]⟩⟩ 0) x0.fOf).enc, .room (γ2a)]⟩ (AWp.reg Try.tyOk hΓ (keep := [4, 5]) (dead := [8]) (by kernel_rfl) rfl (by simp)) ?_
          refine AWp.ret ?_
          obtain rfl := some_inj hr
          refine fin_ret ?_
          simp

@[simp] noncomputable def gReorderBufferPut.S : Sp
  | [.ptr i0 0, .agg e1], M => match M[i0]? with
    | some (.blk c0) => (match nthE c0 4 with
    | some (.mp i1) => (match M[i1]? with
    | some (.mapo c1) => (fun (y0 : ReorderBuffer) => (fun (y1 : Antiphonref09Thing) => (fun (r : List Antiphonref09Thing × Int × ReorderBuffer) => some { av := .tup [.sl ((r.1).map Antiphonref09Thing.enc) .no, .lit (.int .i64 (r.2.1))], M := some ((M.set i0 (.blk [.lit (.int .i64 (r.2.2.fConfig.fMost)), .lit (.int .i64 (r.2.2.fConfig.fWait)), .lit (.bool (r.2.2.fBegun)), .lit (.int .i64 (r.2.2.fNext)), .mp i1, .lit (.int .i64 (r.2.2.fLost))])).set i1 (.mapo (encM (kI .i64) (vA Antiphonref09Thing.enc) (r.2.2.fOf)))), obl := WeakL e1 (Antiphonref09Thing.enc y1) ∧ c0 = ReorderBuffer.enc y0 i1 ∧ c1 = encM (kI .i64) (vA Antiphonref09Thing.enc) (y0.fOf) ∧ (gReorderBufferPut y0 y1).isSome = true ∧ i0 ≠ i1 }) ((gReorderBufferPut y0 y1).getD dflt)) (Antiphonref09Thing.dec e1)) (ReorderBuffer.dec c0 (decM dkI (dvA Antiphonref09Thing.dec) c1))
    | _ => none)
    | _ => none)
    | _ => none
  | _, _ => none

set_option maxHeartbeats 1000000 in
theorem gReorderBufferPut.ok : SpecOk Try.prog 27 gReorderBufferPut.S := by
  intro l M out h
  unfold gReorderBufferPut.S at h
  split at h
  · rename_i i0 e1
    split at h
    case h_2 => cases h
    rename_i c0 hM0
    split at h
    case h_2 => cases h
    rename_i i1 he1
    split at h
    case h_2 => cases h
    rename_i c1 hM1
    try dsimp only at h
    cases h
    refine callOk_of fun ho => ?_
    obtain ⟨ox1, oc0, oc1, hs, hne0⟩ := ho
    generalize (ReorderBuffer.dec c0 (decM dkI (dvA Antiphonref09Thing.dec) c1)) = y0 at *
    generalize (Antiphonref09Thing.dec e1) = x1 at *
    subst oc0
    subst oc1
    obtain ⟨r, hr⟩ := Option.isSome_iff_exists.1 hs
    simp only [hr, Option.getD_some]
    have q := call_frame (M := M) [i0, i1] (gReorderBufferPut.can y0 x1 r hr) (by simp [hne0]) rfl (by intro k i hk; (cases k with | zero => (simp at hk; subst hk; simp [hM0, into]) | succ k => ((cases k with | zero => (simp at hk; subst hk; simp [hM1]) | succ k => (simp at hk)))))
    exact callOk_conv q trivial (by simp [into]; exact ox1) (by simp [frameOut, gReorderBufferPut.out, into]) (by simp [frameOut, gReorderBufferPut.out, into])
  · cases h

end Go.Proofs
