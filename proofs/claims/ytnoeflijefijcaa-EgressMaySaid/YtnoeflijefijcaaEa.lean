/- That these functions compute what their plain functions do. No condition. -/
import Derived.Test.YtnoeflijefijcaaEaD
import Derived.Test.YtnoeflijefijcaaTy
import Derived.Test.YtnoeflijefijcaaDc
import Derived.Test.YtnoeflijefijcaaQu
namespace Go.Proofs
open Go.Ab
@[simp] def gEgressConfigCheck.out (_x0 : EgressConfig) (r : Int) : Out := { av := .lit (.int .i64 r), M := none }
set_option maxHeartbeats 4000000 in
set_option maxRecDepth 100000 in
theorem gEgressConfigCheck.can (x0 : EgressConfig) (r : Int) (hr : gEgressConfigCheck x0 = some r) : CallOk Try.prog 10 [.agg [.lit (.int .i64 x0.fFrames), .lit (.int .i64 x0.fBytes), .lit (.int .i64 x0.fAge), .lit (.int .i64 x0.fMost), .lit (.int .i64 x0.fGuard)]] [] (gEgressConfigCheck.out x0 r) := by
  unfold gEgressConfigCheck at hr
  have hΓ := gamL_nil (P := Try.prog)
  refine call_of_awp Try.tyOk Try.func10 rfl (by kernel_rfl) rfl rfl (by simp) ?_
  intro _ _ _
  refine AWp.then ⟨[⟨1, none, .ptr 0 0⟩], [.blk x0.enc]⟩ (AWp.reg Try.tyOk hΓ (keep := [1]) (dead := [0]) (by kernel_rfl) rfl (by simp)) ?_
  refine AWp.seq ?_
  refine AWp.block ?_
  refine AWp.then ⟨[⟨3, none, .lit (.bool (pickB (pickB (pickB (pickB (pickB (ltI x0.fFrames 1) true (ltI 1024 x0.fFrames)) true (ltI x0.fBytes 1)) true (ltI 16777216 x0.fBytes)) true (ltI x0.fAge 1)) true (ltI 1099511627776 x0.fAge)))⟩, ⟨1, none, .ptr 0 0⟩], [.blk x0.enc]⟩ (AWp.reg Try.tyOk hΓ (keep := [3]) (dead := []) (by kernel_rfl) rfl (by simp)) ?_
  refine AWp.cond (b := (pickB (pickB (pickB (pickB (pickB (ltI x0.fFrames 1) true (ltI 1024 x0.fFrames)) true (ltI x0.fBytes 1)) true (ltI 16777216 x0.fBytes)) true (ltI x0.fAge 1)) true (ltI 1099511627776 x0.fAge))) (by simp) (fun h3 => ?_) (fun h3 => ?_)
  · have hr := cond_t h3 hr
    refine AWp.then ⟨[⟨2, none, .lit (.int .i64 5)⟩], [.blk x0.enc]⟩ (AWp.reg Try.tyOk hΓ (keep := [2]) (dead := [3, 1]) (by kernel_rfl) rfl (by simp [h3])) ?_
    refine AWp.ret ?_
    obtain rfl := some_inj hr
    refine fin_ret ?_
    simp
  · have hr := cond_f h3 hr
    refine AWp.then ⟨[⟨32, none, .lit (.bool (pickB (pickB (pickB (ltI x0.fMost 1) true (ltI 16777216 x0.fMost)) true (ltI x0.fGuard 1)) true (ltI 1024 x0.fGuard)))⟩], [.blk x0.enc]⟩ (AWp.reg Try.tyOk hΓ (keep := [32]) (dead := [3, 1]) (by kernel_rfl) rfl (by simp [h3])) ?_
    refine AWp.cond (b := (pickB (pickB (pickB (ltI x0.fMost 1) true (ltI 16777216 x0.fMost)) true (ltI x0.fGuard 1)) true (ltI 1024 x0.fGuard))) (by simp) (fun h4 => ?_) (fun h4 => ?_)
    · have hr := cond_t h4 hr
      refine AWp.then ⟨[⟨2, none, .lit (.int .i64 5)⟩], [.blk x0.enc]⟩ (AWp.reg Try.tyOk hΓ (keep := [2]) (dead := [32]) (by kernel_rfl) rfl (by simp [h4])) ?_
      refine AWp.ret ?_
      obtain rfl := some_inj hr
      refine fin_ret ?_
      simp
    · have hr := cond_f h4 hr
      refine AWp.skip ?_
      refine AWp.then ⟨[⟨2, none, .lit (.int .i64 0)⟩], [.blk x0.enc]⟩ (AWp.reg Try.tyOk hΓ (keep := [2]) (dead := [32]) (by kernel_rfl) rfl (by simp [h4])) ?_
      refine AWp.ret ?_
      obtain rfl := some_inj hr
      refine fin_ret ?_
      simp

@[simp] noncomputable def gEgressConfigCheck.S : Sp
  | [.agg e0], _ => some { av := .lit (.int .i64 ((gEgressConfigCheck (EgressConfig.dec e0)).getD dflt)), M := none, obl := WeakL e0 (EgressConfig.enc (EgressConfig.dec e0)) ∧ (gEgressConfigCheck (EgressConfig.dec e0)).isSome = true }
  | _, _ => none

set_option maxHeartbeats 1000000 in
theorem gEgressConfigCheck.ok : SpecOk Try.prog 10 gEgressConfigCheck.S := by
  intro l M out h
  unfold gEgressConfigCheck.S at h
  split at h
  · rename_i e0
    cases h
    refine callOk_of fun ho => ?_
    obtain ⟨ox0, hs⟩ := ho
    generalize (EgressConfig.dec e0) = x0 at *
    obtain ⟨r, hr⟩ := Option.isSome_iff_exists.1 hs
    simp only [hr, Option.getD_some]
    have q := call_frame (M := M) [] (gEgressConfigCheck.can x0 r hr) (by simp) rfl (by intro k i hk; simp at hk)
    exact callOk_conv q trivial (by simp; exact ox0) (by simp [frameOut, gEgressConfigCheck.out]) (by simp [frameOut, gEgressConfigCheck.out])
  · cases h

@[simp] def gEgressNew.out (_x0 : EgressConfig) (r : Option EgressOut × Int) : Out := { av := .tup [(optC r.1 (.lit (.pointer none)) fun _ => .ptr 5 0), .lit (.int .i64 r.2)], M := some (optC r.1 [] fun m0 => [.dead, .mapo (encM (kI .i64) (kI .i64) m0.fSched.fShare), .mapo (encM (kI .i64) (kI .i64) m0.fSched.fLeft), .blk [.lit (.int .i64 m0.fSched.fMost), .mp 1, .mp 2, .lit (.int .i64 m0.fSched.fAt), .lit (.bool m0.fSched.fGranted)], .own (EgressFlow.own .i64 m0.fFlows none) none, .blk [.lit (.int .i64 m0.fConfig.fFrames), .lit (.int .i64 m0.fConfig.fBytes), .lit (.int .i64 m0.fConfig.fAge), .lit (.int .i64 m0.fConfig.fMost), .lit (.int .i64 m0.fConfig.fGuard), .mp 4, .ptr 3 0, .lit (.int .i64 m0.fCredit), .lit (.int .i64 m0.fSounds)]]) }
set_option maxHeartbeats 4000000 in
set_option maxRecDepth 100000 in
theorem gEgressNew.can (x0 : EgressConfig) (r : Option EgressOut × Int) (hr : gEgressNew x0 = some r) : CallOk Try.prog 8 [.agg [.lit (.int .i64 x0.fFrames), .lit (.int .i64 x0.fBytes), .lit (.int .i64 x0.fAge), .lit (.int .i64 x0.fMost), .lit (.int .i64 x0.fGuard)]] [] (gEgressNew.out x0 r) := by
  unfold gEgressNew at hr
  have hΓ := (gamL_cons gEgressConfigCheck.ok (gamL_cons gDrrNew.ok (gamL_nil)) : GamOk Try.prog _)
  refine call_of_awp Try.tyOk Try.func8 rfl (by kernel_rfl) rfl rfl (by simp) ?_
  intro _ _ _
  refine AWp.then ⟨[⟨1, none, .ptr 0 0⟩], [.blk x0.enc]⟩ (AWp.reg Try.tyOk hΓ (keep := [1]) (dead := [0]) (by kernel_rfl) rfl (by simp)) ?_
  refine AWp.seq ?_
  obtain ⟨r1, h7, hr⟩ := bind_some' hr
  refine AWp.then ⟨[⟨4, none, .lit (.int .i64 r1)⟩, ⟨1, none, .ptr 0 0⟩], [.blk x0.enc]⟩ (AWp.reg Try.tyOk hΓ (keep := [4]) (dead := []) (by kernel_rfl) rfl (by simp [h7])) ?_
  refine AWp.then ⟨[⟨10, none, .lit (.bool (neI r1 0))⟩, ⟨4, none, .lit (.int .i64 r1)⟩, ⟨1, none, .ptr 0 0⟩], [.blk x0.enc]⟩ (AWp.reg Try.tyOk hΓ (keep := [10]) (dead := []) (by kernel_rfl) rfl (by simp)) ?_
  refine AWp.cond (b := (neI r1 0)) (by simp) (fun h8 => ?_) (fun h8 => ?_)
  · have hr := cond_t h8 hr
    refine AWp.then ⟨[⟨2, none, .lit (.pointer none)⟩, ⟨3, none, .lit (.int .i64 r1)⟩], [.blk x0.enc]⟩ (AWp.reg Try.tyOk hΓ (keep := [2, 3]) (dead := [10, 4, 1]) (by kernel_rfl) rfl (by simp [h8])) ?_
    refine AWp.ret ?_
    obtain rfl := some_inj hr
    refine fin_ret ?_
    simp
  · have hr := cond_f h8 hr
    refine AWp.skip ?_
    obtain ⟨r2, h9, hr⟩ := bind_some' hr
    cases h10 : r2.1 with
    | none =>
      have hr := optC_n h10 hr
      refine AWp.then ⟨[⟨5, none, .lit (.pointer none)⟩, ⟨6, none, .lit (.int .i64 r2.2)⟩, ⟨1, none, .ptr 0 0⟩], [.blk x0.enc]⟩ (AWp.reg Try.tyOk hΓ (keep := [5, 6]) (dead := [10, 4]) (by kernel_rfl) rfl (by simp [h8, h9, h10])) ?_
      refine AWp.seq ?_
      refine AWp.then ⟨[⟨19, none, .lit (.bool (neI r2.2 0))⟩, ⟨5, none, .lit (.pointer none)⟩, ⟨6, none, .lit (.int .i64 r2.2)⟩, ⟨1, none, .ptr 0 0⟩], [.blk x0.enc]⟩ (AWp.reg Try.tyOk hΓ (keep := [19]) (dead := []) (by kernel_rfl) rfl (by simp)) ?_
      refine AWp.cond (b := (neI r2.2 0)) (by simp) (fun h11 => ?_) (fun h11 => ?_)
      · have hr := cond_t h11 hr
        refine AWp.then ⟨[⟨2, none, .lit (.pointer none)⟩, ⟨3, none, .lit (.int .i64 r2.2)⟩], [.blk x0.enc]⟩ (AWp.reg Try.tyOk hΓ (keep := [2, 3]) (dead := [19, 5, 6, 1]) (by kernel_rfl) rfl (by simp [h11])) ?_
        refine AWp.ret ?_
        obtain rfl := some_inj hr
        refine fin_ret ?_
        simp
      · have hr := cond_f h11 hr
        refine AWp.skip ?_
        refine AWp.then ⟨[⟨2, none, .ptr 2 0⟩, ⟨3, none, .lit (.int .i64 0)⟩], [.blk x0.enc, .mapo [], .blk (x0.enc ++ [.mp 1, .lit (.pointer none), .lit (.int .i64 0), .lit (.int .i64 0)])]⟩ (AWp.reg Try.tyOk hΓ (keep := [2, 3]) (dead := [19, 5, 6, 1]) (by kernel_rfl) rfl (by simp [h11])) ?_
        refine AWp.see (See.emptyM (key := intKey .i64) (kE := Value.int .i64) (fl := EgressFlow.fl) (N := EgressFlow.mem) (V := EgressFlow.val) (M' := [.blk x0.enc, .own (EgressFlow.own .i64 [] none) none, .blk (x0.enc ++ [.mp 1, .lit (.pointer none), .lit (.int .i64 0), .lit (.int .i64 0)])]) 1 (by rfl) (by rfl)) ?_
        cases hr
    | some o1 =>
      have hr := optC_s h10 hr
      refine AWp.then ⟨[⟨5, none, .ptr 3 0⟩, ⟨6, none, .lit (.int .i64 r2.2)⟩, ⟨1, none, .ptr 0 0⟩], [.blk x0.enc, .mapo (encM (kI .i64) (kI .i64) o1.fShare), .mapo (encM (kI .i64) (kI .i64) o1.fLeft), .blk [.lit (.int .i64 o1.fMost), .mp 1, .mp 2, .lit (.int .i64 o1.fAt), .lit (.bool o1.fGranted)]]⟩ (AWp.reg Try.tyOk hΓ (keep := [5, 6]) (dead := [10, 4]) (by kernel_rfl) rfl (by simp [h8, h9, h10])) ?_
      refine AWp.seq ?_
      refine AWp.then ⟨[⟨19, none, .lit (.bool (neI r2.2 0))⟩, ⟨5, none, .ptr 3 0⟩, ⟨6, none, .lit (.int .i64 r2.2)⟩, ⟨1, none, .ptr 0 0⟩], [.blk x0.enc, .mapo (encM (kI .i64) (kI .i64) o1.fShare), .mapo (encM (kI .i64) (kI .i64) o1.fLeft), .blk [.lit (.int .i64 o1.fMost), .mp 1, .mp 2, .lit (.int .i64 o1.fAt), .lit (.bool o1.fGranted)]]⟩ (AWp.reg Try.tyOk hΓ (keep := [19]) (dead := []) (by kernel_rfl) rfl (by simp)) ?_
      refine AWp.cond (b := (neI r2.2 0)) (by simp) (fun h12 => ?_) (fun h12 => ?_)
      · have hr := cond_t h12 hr
        refine AWp.then ⟨[⟨2, none, .lit (.pointer none)⟩, ⟨3, none, .lit (.int .i64 r2.2)⟩], [.blk x0.enc, .mapo (encM (kI .i64) (kI .i64) o1.fShare), .mapo (encM (kI .i64) (kI .i64) o1.fLeft), .blk [.lit (.int .i64 o1.fMost), .mp 1, .mp 2, .lit (.int .i64 o1.fAt), .lit (.bool o1.fGranted)]]⟩ (AWp.reg Try.tyOk hΓ (keep := [2, 3]) (dead := [19, 5, 6, 1]) (by kernel_rfl) rfl (by simp [h12])) ?_
        refine AWp.ret ?_
        obtain rfl := some_inj hr
        refine fin_ret ?_
        simp
      · have hr := cond_f h12 hr
        refine AWp.skip ?_
        refine AWp.then ⟨[⟨2, none, .ptr 5 0⟩, ⟨3, none, .lit (.int .i64 0)⟩], [.blk x0.enc, .mapo (encM (kI .i64) (kI .i64) o1.fShare), .mapo (encM (kI .i64) (kI .i64) o1.fLeft), .blk [.lit (.int .i64 o1.fMost), .mp 1, .mp 2, .lit (.int .i64 o1.fAt), .lit (.bool o1.fGranted)], .mapo [], .blk (x0.enc ++ [.mp 4, .ptr 3 0, .lit (.int .i64 0), .lit (.int .i64 0)])]⟩ (AWp.reg Try.tyOk hΓ (keep := [2, 3]) (dead := [19, 5, 6, 1]) (by kernel_rfl) rfl (by simp [h12])) ?_
        refine AWp.see (See.emptyM (key := intKey .i64) (kE := Value.int .i64) (fl := EgressFlow.fl) (N := EgressFlow.mem) (V := EgressFlow.val) (M' := [.blk x0.enc, .mapo (encM (kI .i64) (kI .i64) o1.fShare), .mapo (encM (kI .i64) (kI .i64) o1.fLeft), .blk [.lit (.int .i64 o1.fMost), .mp 1, .mp 2, .lit (.int .i64 o1.fAt), .lit (.bool o1.fGranted)], .own (EgressFlow.own .i64 [] none) none, .blk (x0.enc ++ [.mp 4, .ptr 3 0, .lit (.int .i64 0), .lit (.int .i64 0)])]) 4 (by rfl) (by rfl)) ?_
        refine AWp.ret ?_
        obtain rfl := some_inj hr
        refine fin_ret ?_
        simp

@[simp] noncomputable def gEgressNew.S : Sp
  | [.agg e0], M => some { av := .tup [(optC (((gEgressNew (EgressConfig.dec e0)).getD dflt).1) (.lit (.pointer none)) fun _ => .ptr (M.length + 5) 0), .lit (.int .i64 (((gEgressNew (EgressConfig.dec e0)).getD dflt).2))], M := some (optC (((gEgressNew (EgressConfig.dec e0)).getD dflt).1) M fun m0 => M ++ [.dead, .mapo (encM (kI .i64) (kI .i64) m0.fSched.fShare), .mapo (encM (kI .i64) (kI .i64) m0.fSched.fLeft), .blk [.lit (.int .i64 m0.fSched.fMost), .mp (M.length + 1), .mp (M.length + 2), .lit (.int .i64 m0.fSched.fAt), .lit (.bool m0.fSched.fGranted)], .own (EgressFlow.own .i64 m0.fFlows none) none, .blk [.lit (.int .i64 m0.fConfig.fFrames), .lit (.int .i64 m0.fConfig.fBytes), .lit (.int .i64 m0.fConfig.fAge), .lit (.int .i64 m0.fConfig.fMost), .lit (.int .i64 m0.fConfig.fGuard), .mp (M.length + 4), .ptr (M.length + 3) 0, .lit (.int .i64 m0.fCredit), .lit (.int .i64 m0.fSounds)]]), obl := WeakL e0 (EgressConfig.enc (EgressConfig.dec e0)) ∧ (gEgressNew (EgressConfig.dec e0)).isSome = true }
  | _, _ => none

set_option maxHeartbeats 1000000 in
theorem gEgressNew.ok : SpecOk Try.prog 8 gEgressNew.S := by
  intro l M out h
  unfold gEgressNew.S at h
  split at h
  · rename_i e0
    cases h
    refine callOk_of fun ho => ?_
    obtain ⟨ox0, hs⟩ := ho
    generalize (EgressConfig.dec e0) = x0 at *
    obtain ⟨r, hr⟩ := Option.isSome_iff_exists.1 hs
    simp only [hr, Option.getD_some]
    have q := call_frame (M := M) [] (gEgressNew.can x0 r hr) (by simp) rfl (by intro k i hk; simp at hk)
    cases hc : r.1 with
    | none => exact callOk_conv q trivial (by simp; exact ox0) (by simp [hc, frameOut, gEgressNew.out]) (by simp [hc, frameOut, gEgressNew.out])
    | some m0 => exact callOk_conv q trivial (by simp; exact ox0) (by simp [hc, frameOut, gEgressNew.out, into]) (by simp [hc, frameOut, gEgressNew.out, into])
  · cases h

@[simp] def gEgressAll.out (_x0 : Int) (_x1 : List Antiphonref18Item) (r : List Antiphonref20Sent) : Out := { av := .sl (r.map Antiphonref20Sent.enc) .no, M := none }
def gEgressAll.fin (x0 : Int) (x1 : List Antiphonref18Item) (r : List Antiphonref20Sent) (σ : St) : Prop := finK (gEgressAll.out x0 x1 r) [] σ.M (resA Try.ty σ.A σ.M Try.f37.results.toList)
set_option maxHeartbeats 4000000 in
set_option maxRecDepth 100000 in
theorem gEgressAll.can (x0 : Int) (x1 : List Antiphonref18Item) (r : List Antiphonref20Sent) (hr : gEgressAll x0 x1 = some r) : CallOk Try.prog 37 [.lit (.int .i64 x0), .sl (x1.map Antiphonref18Item.enc) .no] [] (gEgressAll.out x0 x1 r) := by
  unfold gEgressAll at hr
  have hΓ := gamL_nil (P := Try.prog)
  refine call_of_awp Try.tyOk Try.func37 rfl (by kernel_rfl) rfl rfl (by simp) ?_
  intro _ _ _
  refine AWp.then ⟨[⟨0, none, .lit (.int .i64 x0)⟩, ⟨1, none, .sl (x1.map Antiphonref18Item.enc) .no⟩], []⟩ (AWp.reg Try.tyOk hΓ (keep := []) (dead := []) (by kernel_rfl) rfl (by simp)) ?_
  refine AWp.then ⟨[⟨5, none, .sl [] .full⟩, ⟨0, none, .lit (.int .i64 x0)⟩, ⟨1, none, .sl (x1.map Antiphonref18Item.enc) .no⟩], []⟩ (AWp.reg Try.tyOk hΓ (keep := [5]) (dead := []) (by kernel_rfl) rfl (by simp)) ?_
  refine AWp.seq ?_
  refine AWp.then ⟨[⟨8, none, .sl (x1.map Antiphonref18Item.enc) .no⟩, ⟨9, none, .lit (.int .i64 (lenL x1))⟩, ⟨10, none, .lit (.int .i64 0)⟩, ⟨5, none, .sl [] .full⟩, ⟨0, none, .lit (.int .i64 x0)⟩], []⟩ (AWp.reg Try.tyOk hΓ (keep := [8, 9, 10]) (dead := [1]) (by kernel_rfl) rfl (by simp)) ?_
  refine AWp.equip 5 5 (els := []) (by simp) (by simp) ?_
  refine AWp.loopE (fun (s1 : Int × List Antiphonref20Sent) (γ1 : Nat) => ⟨[⟨8, none, .sl (x1.map Antiphonref18Item.enc) .no⟩, ⟨9, none, .lit (.int .i64 (lenL x1))⟩, ⟨10, none, .lit (.int .i64 s1.1)⟩, ⟨5, none, .sl (s1.2.map Antiphonref20Sent.enc) (.own 0 (γ1) 5)⟩, ⟨0, none, .lit (.int .i64 x0)⟩], [.room (γ1)]⟩) (fun (v1 : List Antiphonref20Sent) (γ1a : Nat) => ⟨[⟨5, none, .sl (v1.map Antiphonref20Sent.enc) (.own 0 (γ1a) 5)⟩], [.room (γ1a)]⟩) (gEgressAll.fin x0 x1) hr 0 1 (by simp) (fun s1 f γ1 hr => ?_) (fun v1 γ1a σ1 m1 hr hc => ?_) (fun _ h => h)
  · unfold gEgressAll.loop1 at hr
    refine AWp.then ⟨[⟨11, none, .lit (.bool (ltI s1.1 (lenL x1)))⟩, ⟨8, none, .sl (x1.map Antiphonref18Item.enc) .no⟩, ⟨9, none, .lit (.int .i64 (lenL x1))⟩, ⟨10, none, .lit (.int .i64 s1.1)⟩, ⟨5, none, .sl (s1.2.map Antiphonref20Sent.enc) (.own 0 (γ1) 5)⟩, ⟨0, none, .lit (.int .i64 x0)⟩], [.room (γ1)]⟩ (AWp.reg Try.tyOk hΓ (keep := [11]) (dead := []) (by kernel_rfl) rfl (by simp)) ?_
    refine AWp.seq ?_
    refine AWp.cond (b := (ltI s1.1 (lenL x1))) (by simp) (fun h4 => ?_) (fun h4 => ?_)
    · have hr := cond_t h4 hr
      refine AWp.skip ?_
      refine AWp.seq ?_
      refine AWp.block ?_
      obtain ⟨h5, hr⟩ := need_some hr
      refine AWp.then ⟨[⟨7, none, .ptr 1 0⟩, ⟨8, none, .sl (x1.map Antiphonref18Item.enc) .no⟩, ⟨9, none, .lit (.int .i64 (lenL x1))⟩, ⟨10, none, .lit (.int .i64 s1.1)⟩, ⟨5, none, .sl (s1.2.map Antiphonref20Sent.enc) (.own 0 (γ1) 5)⟩, ⟨0, none, .lit (.int .i64 x0)⟩], [.room (γ1), .blk (nthI x1 s1.1).enc]⟩ (AWp.reg Try.tyOk hΓ (keep := [7]) (dead := [11]) (by kernel_rfl) rfl (by simp [h4, h5])) ?_
      obtain ⟨h6, hr⟩ := need_some hr
      refine AWp.last ⟨[⟨5, none, .sl ((appL s1.2 [(Antiphonref20Sent.mk x0 (nthI x1 s1.1))]).map Antiphonref20Sent.enc) (.own 0 (γ1 + 1) 5)⟩, ⟨8, none, .sl (x1.map Antiphonref18Item.enc) .no⟩, ⟨9, none, .lit (.int .i64 (lenL x1))⟩, ⟨10, none, .lit (.int .i64 s1.1)⟩, ⟨0, none, .lit (.int .i64 x0)⟩], [.room (γ1 + 1), .blk (nthI x1 s1.1).enc]⟩ (AWp.reg Try.tyOk hΓ (keep := [5]) (dead := [7]) (by kernel_rfl) rfl (by simp [h6])) ?_
      refine AWp.last ⟨[⟨10, none, .lit (.int .i64 (addI .i64 s1.1 1))⟩, ⟨5, none, .sl ((appL s1.2 [(Antiphonref20Sent.mk x0 (nthI x1 s1.1))]).map Antiphonref20Sent.enc) (.own 0 (γ1 + 1) 5)⟩, ⟨8, none, .sl (x1.map Antiphonref18Item.enc) .no⟩, ⟨9, none, .lit (.int .i64 (lenL x1))⟩, ⟨0, none, .lit (.int .i64 x0)⟩], [.room (γ1 + 1), .blk (nthI x1 s1.1).enc]⟩ (AWp.reg Try.tyOk hΓ (keep := [10]) (dead := []) (by kernel_rfl) rfl (by simp)) ?_
      obtain rfl := some_inj hr
      exact round_go (γ1 + 1) 1 (by first | (simp; done) | simp [h4, h5, h6])
    · have hr := cond_f h4 hr
      refine AWp.exit ?_
      obtain rfl := some_inj hr
      exact round_out (γ1) 1 (by first | (simp; done) | simp [h4])
  · refine AWp.conv hc ?_
    refine AWp.then ⟨[⟨4, none, .sl (v1.map Antiphonref20Sent.enc) (.own 0 (γ1a) 5)⟩], [.room (γ1a)]⟩ (AWp.reg Try.tyOk hΓ (keep := [4]) (dead := [5]) (by kernel_rfl) rfl (by simp)) ?_
    refine AWp.ret ?_
    obtain rfl := some_inj hr
    refine fin_ret ?_
    simp

@[simp] noncomputable def gEgressAll.S : Sp
  | [.lit (.int .i64 x0), .sl e1 _], _ => some { av := .sl (((gEgressAll x0 (e1.map Antiphonref18Item.dec)).getD dflt).map Antiphonref20Sent.enc) .no, M := none, obl := e1 = (e1.map Antiphonref18Item.dec).map Antiphonref18Item.enc ∧ (gEgressAll x0 (e1.map Antiphonref18Item.dec)).isSome = true }
  | _, _ => none

set_option maxHeartbeats 1000000 in
theorem gEgressAll.ok : SpecOk Try.prog 37 gEgressAll.S := by
  intro l M out h
  unfold gEgressAll.S at h
  split at h
  · rename_i x0 e1 k1
    cases h
    refine callOk_of fun ho => ?_
    obtain ⟨ox1, hs⟩ := ho
    generalize (e1.map Antiphonref18Item.dec) = x1 at *
    subst ox1
    obtain ⟨r, hr⟩ := Option.isSome_iff_exists.1 hs
    simp only [hr, Option.getD_some]
    have q := call_frame (M := M) [] (gEgressAll.can x0 x1 r hr) (by simp) rfl (by intro k i hk; simp at hk)
    exact callOk_conv q trivial (by simp) (by simp [frameOut, gEgressAll.out]) (by simp [frameOut, gEgressAll.out])
  · cases h

@[simp] def gEgressOutAdd.out (_x0 : EgressOut) (_x1 : Int) (_x2 : Bool) (_x3 : Int) (r : Int × EgressOut) : Out := { av := .lit (.int .i64 r.1), M := some [.blk [.lit (.int .i64 r.2.fConfig.fFrames), .lit (.int .i64 r.2.fConfig.fBytes), .lit (.int .i64 r.2.fConfig.fAge), .lit (.int .i64 r.2.fConfig.fMost), .lit (.int .i64 r.2.fConfig.fGuard), .mp 1, .ptr 2 0, .lit (.int .i64 r.2.fCredit), .lit (.int .i64 r.2.fSounds)], .own (EgressFlow.own .i64 r.2.fFlows none) none, .blk [.lit (.int .i64 r.2.fSched.fMost), .mp 3, .mp 4, .lit (.int .i64 r.2.fSched.fAt), .lit (.bool r.2.fSched.fGranted)], .mapo (encM (kI .i64) (kI .i64) r.2.fSched.fShare), .mapo (encM (kI .i64) (kI .i64) r.2.fSched.fLeft)] }
def gEgressOutAdd.fin (x0 : EgressOut) (x1 : Int) (x2 : Bool) (x3 : Int) (r : Int × EgressOut) (σ : St) : Prop := finK (gEgressOutAdd.out x0 x1 x2 x3 r) [.blk (x0.fConfig.enc ++ [.mp 1, .ptr 2 0, .lit (.int .i64 x0.fCredit), .lit (.int .i64 x0.fSounds)]), .own (EgressFlow.own .i64 x0.fFlows none) none, .blk [.lit (.int .i64 x0.fSched.fMost), .mp 3, .mp 4, .lit (.int .i64 x0.fSched.fAt), .lit (.bool x0.fSched.fGranted)], .mapo (encM (kI .i64) (kI .i64) x0.fSched.fShare), .mapo (encM (kI .i64) (kI .i64) x0.fSched.fLeft)] σ.M (resA Try.ty σ.A σ.M Try.f11.results.toList)
set_option maxHeartbeats 4000000 in
set_option maxRecDepth 100000 in
theorem gEgressOutAdd.can (x0 : EgressOut) (x1 : Int) (x2 : Bool) (x3 : Int) (r : Int × EgressOut) (hr : gEgressOutAdd x0 x1 x2 x3 = some r) : CallOk Try.prog 11 [.ptr 0 0, .lit (.int .i64 x1), .lit (.bool x2), .lit (.int .i64 x3)] [.blk (x0.fConfig.enc ++ [.mp 1, .ptr 2 0, .lit (.int .i64 x0.fCredit), .lit (.int .i64 x0.fSounds)]), .own (EgressFlow.own .i64 x0.fFlows none) none, .blk [.lit (.int .i64 x0.fSched.fMost), .mp 3, .mp 4, .lit (.int .i64 x0.fSched.fAt), .lit (.bool x0.fSched.fGranted)], .mapo (encM (kI .i64) (kI .i64) x0.fSched.fShare), .mapo (encM (kI .i64) (kI .i64) x0.fSched.fLeft)] (gEgressOutAdd.out x0 x1 x2 x3 r) := by
  unfold gEgressOutAdd at hr
  have hΓ := (gamL_cons gDrrSchedAdd.ok (gamL_cons gQueueNew.ok (gamL_nil)) : GamOk Try.prog _)
  refine call_of_awp Try.tyOk Try.func11 rfl (by kernel_rfl) rfl rfl (by simp) ?_
  intro _ _ _
  refine AWp.then ⟨[⟨0, none, .ptr 0 0⟩, ⟨1, none, .lit (.int .i64 x1)⟩, ⟨2, none, .lit (.bool x2)⟩, ⟨3, none, .lit (.int .i64 x3)⟩], [.blk (x0.fConfig.enc ++ [.mp 1, .ptr 2 0, .lit (.int .i64 x0.fCredit), .lit (.int .i64 x0.fSounds)]), .own (EgressFlow.own .i64 x0.fFlows none) none, .blk [.lit (.int .i64 x0.fSched.fMost), .mp 3, .mp 4, .lit (.int .i64 x0.fSched.fAt), .lit (.bool x0.fSched.fGranted)], .mapo (encM (kI .i64) (kI .i64) x0.fSched.fShare), .mapo (encM (kI .i64) (kI .i64) x0.fSched.fLeft)]⟩ (AWp.reg Try.tyOk hΓ (keep := []) (dead := []) (by kernel_rfl) rfl (by simp)) ?_
  refine AWp.seq ?_
  cases h9 : findM eqI x1 x0.fFlows with
  | none =>
    have hr := optC_n h9 hr
    refine AWp.see (See.missI (M' := [.blk (x0.fConfig.enc ++ [.mp 1, .ptr 2 0, .lit (.int .i64 x0.fCredit), .lit (.int .i64 x0.fSounds)]), .own (EgressFlow.own .i64 x0.fFlows none) (some (.int .i64 x1, none)), .blk [.lit (.int .i64 x0.fSched.fMost), .mp 3, .mp 4, .lit (.int .i64 x0.fSched.fAt), .lit (.bool x0.fSched.fGranted)], .mapo (encM (kI .i64) (kI .i64) x0.fSched.fShare), .mapo (encM (kI .i64) (kI .i64) x0.fSched.fLeft)]) 1 x1 x0.fFlows h9 (by rfl) (by rfl)) ?_
    refine AWp.then ⟨[⟨10, none, .lit (.bool false)⟩, ⟨0, none, .ptr 0 0⟩, ⟨1, none, .lit (.int .i64 x1)⟩, ⟨2, none, .lit (.bool x2)⟩, ⟨3, none, .lit (.int .i64 x3)⟩], [.blk (x0.fConfig.enc ++ [.mp 1, .ptr 2 0, .lit (.int .i64 x0.fCredit), .lit (.int .i64 x0.fSounds)]), .own (EgressFlow.own .i64 x0.fFlows none) (some (.int .i64 x1, none)), .blk [.lit (.int .i64 x0.fSched.fMost), .mp 3, .mp 4, .lit (.int .i64 x0.fSched.fAt), .lit (.bool x0.fSched.fGranted)], .mapo (encM (kI .i64) (kI .i64) x0.fSched.fShare), .mapo (encM (kI .i64) (kI .i64) x0.fSched.fLeft), .blk [.lit (.pointer none), .lit (.bool false)]]⟩ (AWp.reg Try.tyOk hΓ (keep := [10]) (dead := []) (by kernel_rfl) rfl (by simp)) ?_
    refine AWp.then ⟨[⟨23, none, .lit (.bool false)⟩, ⟨0, none, .ptr 0 0⟩, ⟨1, none, .lit (.int .i64 x1)⟩, ⟨2, none, .lit (.bool x2)⟩, ⟨3, none, .lit (.int .i64 x3)⟩], [.blk (x0.fConfig.enc ++ [.mp 1, .ptr 2 0, .lit (.int .i64 x0.fCredit), .lit (.int .i64 x0.fSounds)]), .own (EgressFlow.own .i64 x0.fFlows none) (some (.int .i64 x1, none)), .blk [.lit (.int .i64 x0.fSched.fMost), .mp 3, .mp 4, .lit (.int .i64 x0.fSched.fAt), .lit (.bool x0.fSched.fGranted)], .mapo (encM (kI .i64) (kI .i64) x0.fSched.fShare), .mapo (encM (kI .i64) (kI .i64) x0.fSched.fLeft), .blk [.lit (.pointer none), .lit (.bool false)]]⟩ (AWp.reg Try.tyOk hΓ (keep := [23]) (dead := [10]) (by kernel_rfl) rfl (by simp)) ?_
    refine AWp.cond (b := false) (by simp) (fun hb => ?_) (fun hb => ?_)
    · cases hb
    · refine AWp.skip ?_
      refine AWp.meetF (fun (v1 : Int × Int × Bool × (List (Int × Int)) × (List (Int × Int)) × Bool) (γ1 : Unit) => ⟨[⟨0, none, .ptr 0 0⟩, ⟨1, none, .lit (.int .i64 x1)⟩, ⟨2, none, .lit (.bool v1.2.2.2.2.2)⟩], [.blk (x0.fConfig.enc ++ [.mp 1, .ptr 2 0, .lit (.int .i64 x0.fCredit), .lit (.int .i64 x0.fSounds)]), .own (EgressFlow.own .i64 x0.fFlows none) (some (.int .i64 x1, none)), .blk [.lit (.int .i64 v1.1), .mp 3, .mp 4, .lit (.int .i64 v1.2.1), .lit (.bool v1.2.2.1)], .mapo (encM (kI .i64) (kI .i64) v1.2.2.2.1), .mapo (encM (kI .i64) (kI .i64) v1.2.2.2.2.1), .blk [.lit (.pointer none), .lit (.bool false)]]⟩) (gEgressOutAdd.fin x0 x1 x2 x3) hr (fun f hr => ?_) (fun v1 γ1 hr => ?_) (fun _ h => h)
      · refine AWp.then ⟨[⟨24, none, .lit (.bool x2)⟩, ⟨0, none, .ptr 0 0⟩, ⟨1, none, .lit (.int .i64 x1)⟩, ⟨2, none, .lit (.bool x2)⟩, ⟨3, none, .lit (.int .i64 x3)⟩], [.blk (x0.fConfig.enc ++ [.mp 1, .ptr 2 0, .lit (.int .i64 x0.fCredit), .lit (.int .i64 x0.fSounds)]), .own (EgressFlow.own .i64 x0.fFlows none) (some (.int .i64 x1, none)), .blk [.lit (.int .i64 x0.fSched.fMost), .mp 3, .mp 4, .lit (.int .i64 x0.fSched.fAt), .lit (.bool x0.fSched.fGranted)], .mapo (encM (kI .i64) (kI .i64) x0.fSched.fShare), .mapo (encM (kI .i64) (kI .i64) x0.fSched.fLeft), .blk [.lit (.pointer none), .lit (.bool false)]]⟩ (AWp.reg Try.tyOk hΓ (keep := [24]) (dead := [23]) (by kernel_rfl) rfl (by simp)) ?_
        refine AWp.cond (b := x2) (by simp) (fun h10 => ?_) (fun h10 => ?_)
        · have hr := cond_t h10 hr
          obtain ⟨r1, h11, hr⟩ := bind_some' hr
          refine AWp.then ⟨[⟨11, none, .lit (.int .i64 r1.1)⟩, ⟨0, none, .ptr 0 0⟩, ⟨1, none, .lit (.int .i64 x1)⟩, ⟨2, none, .lit (.bool true)⟩], [.blk (x0.fConfig.enc ++ [.mp 1, .ptr 2 0, .lit (.int .i64 x0.fCredit), .lit (.int .i64 x0.fSounds)]), .own (EgressFlow.own .i64 x0.fFlows none) (some (.int .i64 x1, none)), .blk [.lit (.int .i64 r1.2.fMost), .mp 3, .mp 4, .lit (.int .i64 r1.2.fAt), .lit (.bool r1.2.fGranted)], .mapo (encM (kI .i64) (kI .i64) r1.2.fShare), .mapo (encM (kI .i64) (kI .i64) r1.2.fLeft), .blk [.lit (.pointer none), .lit (.bool false)]]⟩ (AWp.reg Try.tyOk hΓ (keep := [11]) (dead := [24, 3]) (by kernel_rfl) rfl (by simp [h10, h11])) ?_
          refine AWp.then ⟨[⟨33, none, .lit (.bool (neI r1.1 0))⟩, ⟨11, none, .lit (.int .i64 r1.1)⟩, ⟨0, none, .ptr 0 0⟩, ⟨1, none, .lit (.int .i64 x1)⟩, ⟨2, none, .lit (.bool true)⟩], [.blk (x0.fConfig.enc ++ [.mp 1, .ptr 2 0, .lit (.int .i64 x0.fCredit), .lit (.int .i64 x0.fSounds)]), .own (EgressFlow.own .i64 x0.fFlows none) (some (.int .i64 x1, none)), .blk [.lit (.int .i64 r1.2.fMost), .mp 3, .mp 4, .lit (.int .i64 r1.2.fAt), .lit (.bool r1.2.fGranted)], .mapo (encM (kI .i64) (kI .i64) r1.2.fShare), .mapo (encM (kI .i64) (kI .i64) r1.2.fLeft), .blk [.lit (.pointer none), .lit (.bool false)]]⟩ (AWp.reg Try.tyOk hΓ (keep := [33]) (dead := []) (by kernel_rfl) rfl (by simp)) ?_
          refine AWp.cond (b := (neI r1.1 0)) (by simp) (fun h12 => ?_) (fun h12 => ?_)
          · have hr := cond_t h12 hr
            refine AWp.then ⟨[⟨8, none, .lit (.int .i64 r1.1)⟩], [.blk (x0.fConfig.enc ++ [.mp 1, .ptr 2 0, .lit (.int .i64 x0.fCredit), .lit (.int .i64 x0.fSounds)]), .own (EgressFlow.own .i64 x0.fFlows none) (some (.int .i64 x1, none)), .blk [.lit (.int .i64 r1.2.fMost), .mp 3, .mp 4, .lit (.int .i64 r1.2.fAt), .lit (.bool r1.2.fGranted)], .mapo (encM (kI .i64) (kI .i64) r1.2.fShare), .mapo (encM (kI .i64) (kI .i64) r1.2.fLeft), .blk [.lit (.pointer none), .lit (.bool false)]]⟩ (AWp.reg Try.tyOk hΓ (keep := [8]) (dead := [33, 11, 0, 1, 2]) (by kernel_rfl) rfl (by simp [h12])) ?_
            refine AWp.see (See.shutM (M' := [.blk (x0.fConfig.enc ++ [.mp 1, .ptr 2 0, .lit (.int .i64 x0.fCredit), .lit (.int .i64 x0.fSounds)]), .own (EgressFlow.own .i64 x0.fFlows none) none, .blk [.lit (.int .i64 r1.2.fMost), .mp 3, .mp 4, .lit (.int .i64 r1.2.fAt), .lit (.bool r1.2.fGranted)], .mapo (encM (kI .i64) (kI .i64) r1.2.fShare), .mapo (encM (kI .i64) (kI .i64) r1.2.fLeft), .blk [.lit (.pointer none), .lit (.bool false)]]) 1 (by rfl) (by rfl)) ?_
            refine AWp.ret ?_
            obtain rfl := some_inj hr
            refine meet_ret ?_
            refine fin_ret ?_
            simp
          · have hr := cond_f h12 hr
            refine AWp.skip ?_
            obtain rfl := some_inj hr
            exact meet_go () 6 (by first | (simp; done) | simp [h10, h11, h12])
        · have hr := cond_f h10 hr
          refine AWp.skip ?_
          obtain rfl := some_inj hr
          exact meet_go () 6 (by first | (simp; done) | simp [h10])
      · obtain ⟨r2, h13, hr⟩ := bind_some' hr
        cases h14 : r2.1 with
        | none =>
          have hr := optC_n h14 hr
          refine AWp.then ⟨[⟨12, none, .lit (.pointer none)⟩, ⟨13, none, .lit (.int .i64 r2.2)⟩, ⟨0, none, .ptr 0 0⟩, ⟨1, none, .lit (.int .i64 x1)⟩, ⟨2, none, .lit (.bool v1.2.2.2.2.2)⟩], [.blk (x0.fConfig.enc ++ [.mp 1, .ptr 2 0, .lit (.int .i64 x0.fCredit), .lit (.int .i64 x0.fSounds)]), .own (EgressFlow.own .i64 x0.fFlows none) (some (.int .i64 x1, none)), .blk [.lit (.int .i64 v1.1), .mp 3, .mp 4, .lit (.int .i64 v1.2.1), .lit (.bool v1.2.2.1)], .mapo (encM (kI .i64) (kI .i64) v1.2.2.2.1), .mapo (encM (kI .i64) (kI .i64) v1.2.2.2.2.1), .blk [.lit (.pointer none), .lit (.bool false)]]⟩ (AWp.regD Try.mixed Try.tyOk hΓ (keep := [12, 13]) (dead := []) [] [(false, []), (false, []), (false, []), (false, []), (false, []), (false, []), (false, []), (false, []), (false, []), (false, []), (true, []), (false, []), (false, []), (false, []), (false, []), (false, [])] (by kernel_rfl) rfl (by simp [h13, h14])) ?_
          refine AWp.seq ?_
          refine AWp.then ⟨[⟨50, none, .lit (.bool (neI r2.2 0))⟩, ⟨12, none, .lit (.pointer none)⟩, ⟨13, none, .lit (.int .i64 r2.2)⟩, ⟨0, none, .ptr 0 0⟩, ⟨1, none, .lit (.int .i64 x1)⟩, ⟨2, none, .lit (.bool v1.2.2.2.2.2)⟩], [.blk (x0.fConfig.enc ++ [.mp 1, .ptr 2 0, .lit (.int .i64 x0.fCredit), .lit (.int .i64 x0.fSounds)]), .own (EgressFlow.own .i64 x0.fFlows none) (some (.int .i64 x1, none)), .blk [.lit (.int .i64 v1.1), .mp 3, .mp 4, .lit (.int .i64 v1.2.1), .lit (.bool v1.2.2.1)], .mapo (encM (kI .i64) (kI .i64) v1.2.2.2.1), .mapo (encM (kI .i64) (kI .i64) v1.2.2.2.2.1), .blk [.lit (.pointer none), .lit (.bool false)]]⟩ (AWp.reg Try.tyOk hΓ (keep := [50]) (dead := []) (by kernel_rfl) rfl (by simp)) ?_
          refine AWp.cond (b := (neI r2.2 0)) (by simp) (fun h15 => ?_) (fun h15 => ?_)
          · have hr := cond_t h15 hr
            refine AWp.then ⟨[⟨8, none, .lit (.int .i64 r2.2)⟩], [.blk (x0.fConfig.enc ++ [.mp 1, .ptr 2 0, .lit (.int .i64 x0.fCredit), .lit (.int .i64 x0.fSounds)]), .own (EgressFlow.own .i64 x0.fFlows none) (some (.int .i64 x1, none)), .blk [.lit (.int .i64 v1.1), .mp 3, .mp 4, .lit (.int .i64 v1.2.1), .lit (.bool v1.2.2.1)], .mapo (encM (kI .i64) (kI .i64) v1.2.2.2.1), .mapo (encM (kI .i64) (kI .i64) v1.2.2.2.2.1), .blk [.lit (.pointer none), .lit (.bool false)]]⟩ (AWp.reg Try.tyOk hΓ (keep := [8]) (dead := [50, 12, 13, 0, 1, 2]) (by kernel_rfl) rfl (by simp [h15])) ?_
            refine AWp.see (See.shutM (M' := [.blk (x0.fConfig.enc ++ [.mp 1, .ptr 2 0, .lit (.int .i64 x0.fCredit), .lit (.int .i64 x0.fSounds)]), .own (EgressFlow.own .i64 x0.fFlows none) none, .blk [.lit (.int .i64 v1.1), .mp 3, .mp 4, .lit (.int .i64 v1.2.1), .lit (.bool v1.2.2.1)], .mapo (encM (kI .i64) (kI .i64) v1.2.2.2.1), .mapo (encM (kI .i64) (kI .i64) v1.2.2.2.2.1), .blk [.lit (.pointer none), .lit (.bool false)]]) 1 (by rfl) (by rfl)) ?_
            refine AWp.ret ?_
            obtain rfl := some_inj hr
            refine fin_ret ?_
            simp
          · have hr := cond_f h15 hr
            refine AWp.skip ?_
            refine AWp.then ⟨[], [.blk (x0.fConfig.enc ++ [.mp 1, .ptr 2 0, .lit (.int .i64 x0.fCredit), .lit (.int .i64 x0.fSounds)]), .own ((EgressFlow.own .i64 x0.fFlows none).push (.int .i64 x1)) (some (.int .i64 x1, some (.agg [.lit (.pointer none), .lit (.bool v1.2.2.2.2.2)]))), .blk [.lit (.int .i64 v1.1), .mp 3, .mp 4, .lit (.int .i64 v1.2.1), .lit (.bool v1.2.2.1)], .mapo (encM (kI .i64) (kI .i64) v1.2.2.2.1), .mapo (encM (kI .i64) (kI .i64) v1.2.2.2.2.1), .blk [.lit (.pointer none), .lit (.bool false)]]⟩ (AWp.reg Try.tyOk hΓ (keep := []) (dead := [50, 12, 13, 0, 1, 2]) (by kernel_rfl) rfl (by simp [h15])) ?_
            refine AWp.then ⟨[⟨8, none, .lit (.int .i64 0)⟩], [.blk (x0.fConfig.enc ++ [.mp 1, .ptr 2 0, .lit (.int .i64 x0.fCredit), .lit (.int .i64 x0.fSounds)]), .own ((EgressFlow.own .i64 x0.fFlows none).push (.int .i64 x1)) (some (.int .i64 x1, some (.agg [.lit (.pointer none), .lit (.bool v1.2.2.2.2.2)]))), .blk [.lit (.int .i64 v1.1), .mp 3, .mp 4, .lit (.int .i64 v1.2.1), .lit (.bool v1.2.2.1)], .mapo (encM (kI .i64) (kI .i64) v1.2.2.2.1), .mapo (encM (kI .i64) (kI .i64) v1.2.2.2.2.1), .blk [.lit (.pointer none), .lit (.bool false)]]⟩ (AWp.reg Try.tyOk hΓ (keep := [8]) (dead := []) (by kernel_rfl) rfl (by simp)) ?_
            cases hr
        | some o1 =>
          have hr := optC_s h14 hr
          refine AWp.then ⟨[⟨12, none, .ptr 6 0⟩, ⟨13, none, .lit (.int .i64 r2.2)⟩, ⟨0, none, .ptr 0 0⟩, ⟨1, none, .lit (.int .i64 x1)⟩, ⟨2, none, .lit (.bool v1.2.2.2.2.2)⟩], [.blk (x0.fConfig.enc ++ [.mp 1, .ptr 2 0, .lit (.int .i64 x0.fCredit), .lit (.int .i64 x0.fSounds)]), .own (EgressFlow.own .i64 x0.fFlows none) (some (.int .i64 x1, none)), .blk [.lit (.int .i64 v1.1), .mp 3, .mp 4, .lit (.int .i64 v1.2.1), .lit (.bool v1.2.2.1)], .mapo (encM (kI .i64) (kI .i64) v1.2.2.2.1), .mapo (encM (kI .i64) (kI .i64) v1.2.2.2.2.1), .blk [.lit (.pointer none), .lit (.bool false)], .blk o1.enc]⟩ (AWp.regD Try.mixed Try.tyOk hΓ (keep := [12, 13]) (dead := []) [] [(false, []), (false, []), (false, []), (false, []), (false, []), (false, []), (false, []), (false, []), (false, []), (false, []), (true, []), (false, []), (false, []), (false, []), (false, []), (false, [])] (by kernel_rfl) rfl (by simp [h13, h14])) ?_
          refine AWp.seq ?_
          refine AWp.then ⟨[⟨50, none, .lit (.bool (neI r2.2 0))⟩, ⟨12, none, .ptr 6 0⟩, ⟨13, none, .lit (.int .i64 r2.2)⟩, ⟨0, none, .ptr 0 0⟩, ⟨1, none, .lit (.int .i64 x1)⟩, ⟨2, none, .lit (.bool v1.2.2.2.2.2)⟩], [.blk (x0.fConfig.enc ++ [.mp 1, .ptr 2 0, .lit (.int .i64 x0.fCredit), .lit (.int .i64 x0.fSounds)]), .own (EgressFlow.own .i64 x0.fFlows none) (some (.int .i64 x1, none)), .blk [.lit (.int .i64 v1.1), .mp 3, .mp 4, .lit (.int .i64 v1.2.1), .lit (.bool v1.2.2.1)], .mapo (encM (kI .i64) (kI .i64) v1.2.2.2.1), .mapo (encM (kI .i64) (kI .i64) v1.2.2.2.2.1), .blk [.lit (.pointer none), .lit (.bool false)], .blk o1.enc]⟩ (AWp.reg Try.tyOk hΓ (keep := [50]) (dead := []) (by kernel_rfl) rfl (by simp)) ?_
          refine AWp.cond (b := (neI r2.2 0)) (by simp) (fun h16 => ?_) (fun h16 => ?_)
          · have hr := cond_t h16 hr
            refine AWp.then ⟨[⟨8, none, .lit (.int .i64 r2.2)⟩], [.blk (x0.fConfig.enc ++ [.mp 1, .ptr 2 0, .lit (.int .i64 x0.fCredit), .lit (.int .i64 x0.fSounds)]), .own (EgressFlow.own .i64 x0.fFlows none) (some (.int .i64 x1, none)), .blk [.lit (.int .i64 v1.1), .mp 3, .mp 4, .lit (.int .i64 v1.2.1), .lit (.bool v1.2.2.1)], .mapo (encM (kI .i64) (kI .i64) v1.2.2.2.1), .mapo (encM (kI .i64) (kI .i64) v1.2.2.2.2.1), .blk [.lit (.pointer none), .lit (.bool false)], .blk o1.enc]⟩ (AWp.reg Try.tyOk hΓ (keep := [8]) (dead := [50, 12, 13, 0, 1, 2]) (by kernel_rfl) rfl (by simp [h16])) ?_
            refine AWp.see (See.shutM (M' := [.blk (x0.fConfig.enc ++ [.mp 1, .ptr 2 0, .lit (.int .i64 x0.fCredit), .lit (.int .i64 x0.fSounds)]), .own (EgressFlow.own .i64 x0.fFlows none) none, .blk [.lit (.int .i64 v1.1), .mp 3, .mp 4, .lit (.int .i64 v1.2.1), .lit (.bool v1.2.2.1)], .mapo (encM (kI .i64) (kI .i64) v1.2.2.2.1), .mapo (encM (kI .i64) (kI .i64) v1.2.2.2.2.1), .blk [.lit (.pointer none), .lit (.bool false)], .blk o1.enc]) 1 (by rfl) (by rfl)) ?_
            refine AWp.ret ?_
            obtain rfl := some_inj hr
            refine fin_ret ?_
            simp
          · have hr := cond_f h16 hr
            refine AWp.skip ?_
            refine AWp.then ⟨[], [.blk (x0.fConfig.enc ++ [.mp 1, .ptr 2 0, .lit (.int .i64 x0.fCredit), .lit (.int .i64 x0.fSounds)]), .own ((EgressFlow.own .i64 x0.fFlows none).push (.int .i64 x1)) (some (.int .i64 x1, some (.agg [.ptr 6 0, .lit (.bool v1.2.2.2.2.2)]))), .blk [.lit (.int .i64 v1.1), .mp 3, .mp 4, .lit (.int .i64 v1.2.1), .lit (.bool v1.2.2.1)], .mapo (encM (kI .i64) (kI .i64) v1.2.2.2.1), .mapo (encM (kI .i64) (kI .i64) v1.2.2.2.2.1), .blk [.lit (.pointer none), .lit (.bool false)], .blk o1.enc]⟩ (AWp.reg Try.tyOk hΓ (keep := []) (dead := [50, 12, 13, 0, 1, 2]) (by kernel_rfl) rfl (by simp [h16])) ?_
            refine AWp.then ⟨[⟨8, none, .lit (.int .i64 0)⟩], [.blk (x0.fConfig.enc ++ [.mp 1, .ptr 2 0, .lit (.int .i64 x0.fCredit), .lit (.int .i64 x0.fSounds)]), .own ((EgressFlow.own .i64 x0.fFlows none).push (.int .i64 x1)) (some (.int .i64 x1, some (.agg [.ptr 6 0, .lit (.bool v1.2.2.2.2.2)]))), .blk [.lit (.int .i64 v1.1), .mp 3, .mp 4, .lit (.int .i64 v1.2.1), .lit (.bool v1.2.2.1)], .mapo (encM (kI .i64) (kI .i64) v1.2.2.2.1), .mapo (encM (kI .i64) (kI .i64) v1.2.2.2.2.1), .blk [.lit (.pointer none), .lit (.bool false)], .blk o1.enc]⟩ (AWp.reg Try.tyOk hΓ (keep := [8]) (dead := []) (by kernel_rfl) rfl (by simp)) ?_
            refine AWp.see (See.newI (M' := [.blk (x0.fConfig.enc ++ [.mp 1, .ptr 2 0, .lit (.int .i64 x0.fCredit), .lit (.int .i64 x0.fSounds)]), .own (EgressFlow.own .i64 (setM eqI x1 (EgressFlow.mk o1 v1.2.2.2.2.2) x0.fFlows) none) none, .blk [.lit (.int .i64 v1.1), .mp 3, .mp 4, .lit (.int .i64 v1.2.1), .lit (.bool v1.2.2.1)], .mapo (encM (kI .i64) (kI .i64) v1.2.2.2.1), .mapo (encM (kI .i64) (kI .i64) v1.2.2.2.2.1), .blk [.lit (.pointer none), .lit (.bool false)], .dead]) 1 x1 (EgressFlow.mk o1 v1.2.2.2.2.2) x0.fFlows [6] (by rfl) (by decide) (by simp) (by simp [into]) (by simp) (by rfl)) ?_
            refine AWp.ret ?_
            obtain rfl := some_inj hr
            refine fin_ret ?_
            simp
  | some z1 =>
    have hr := optC_s h9 hr
    refine AWp.see (See.openI (M' := [.blk (x0.fConfig.enc ++ [.mp 1, .ptr 2 0, .lit (.int .i64 x0.fCredit), .lit (.int .i64 x0.fSounds)]), .own (EgressFlow.own .i64 x0.fFlows (some (.int .i64 x1))) (some (.int .i64 x1, some (.agg [.ptr 5 0, .lit (.bool z1.fVideo)]))), .blk [.lit (.int .i64 x0.fSched.fMost), .mp 3, .mp 4, .lit (.int .i64 x0.fSched.fAt), .lit (.bool x0.fSched.fGranted)], .mapo (encM (kI .i64) (kI .i64) x0.fSched.fShare), .mapo (encM (kI .i64) (kI .i64) x0.fSched.fLeft), .blk z1.fQueue.enc]) 1 x1 z1 x0.fFlows h9 (by rfl) (by simp)) ?_
    refine AWp.then ⟨[⟨10, none, .lit (.bool true)⟩, ⟨0, none, .ptr 0 0⟩, ⟨1, none, .lit (.int .i64 x1)⟩, ⟨2, none, .lit (.bool x2)⟩, ⟨3, none, .lit (.int .i64 x3)⟩], [.blk (x0.fConfig.enc ++ [.mp 1, .ptr 2 0, .lit (.int .i64 x0.fCredit), .lit (.int .i64 x0.fSounds)]), .own (EgressFlow.own .i64 x0.fFlows (some (.int .i64 x1))) (some (.int .i64 x1, some (.agg [.ptr 5 0, .lit (.bool z1.fVideo)]))), .blk [.lit (.int .i64 x0.fSched.fMost), .mp 3, .mp 4, .lit (.int .i64 x0.fSched.fAt), .lit (.bool x0.fSched.fGranted)], .mapo (encM (kI .i64) (kI .i64) x0.fSched.fShare), .mapo (encM (kI .i64) (kI .i64) x0.fSched.fLeft), .blk z1.fQueue.enc, .blk [.ptr 5 0, .lit (.bool z1.fVideo)]]⟩ (AWp.reg Try.tyOk hΓ (keep := [10]) (dead := []) (by kernel_rfl) rfl (by simp)) ?_
    refine AWp.then ⟨[⟨23, none, .lit (.bool true)⟩, ⟨0, none, .ptr 0 0⟩, ⟨1, none, .lit (.int .i64 x1)⟩, ⟨2, none, .lit (.bool x2)⟩, ⟨3, none, .lit (.int .i64 x3)⟩], [.blk (x0.fConfig.enc ++ [.mp 1, .ptr 2 0, .lit (.int .i64 x0.fCredit), .lit (.int .i64 x0.fSounds)]), .own (EgressFlow.own .i64 x0.fFlows (some (.int .i64 x1))) (some (.int .i64 x1, some (.agg [.ptr 5 0, .lit (.bool z1.fVideo)]))), .blk [.lit (.int .i64 x0.fSched.fMost), .mp 3, .mp 4, .lit (.int .i64 x0.fSched.fAt), .lit (.bool x0.fSched.fGranted)], .mapo (encM (kI .i64) (kI .i64) x0.fSched.fShare), .mapo (encM (kI .i64) (kI .i64) x0.fSched.fLeft), .blk z1.fQueue.enc, .blk [.ptr 5 0, .lit (.bool z1.fVideo)]]⟩ (AWp.reg Try.tyOk hΓ (keep := [23]) (dead := [10]) (by kernel_rfl) rfl (by simp)) ?_
    refine AWp.cond (b := true) (by simp) (fun hb => ?_) (fun hb => ?_)
    · refine AWp.then ⟨[⟨8, none, .lit (.int .i64 10)⟩], [.blk (x0.fConfig.enc ++ [.mp 1, .ptr 2 0, .lit (.int .i64 x0.fCredit), .lit (.int .i64 x0.fSounds)]), .own (EgressFlow.own .i64 x0.fFlows (some (.int .i64 x1))) (some (.int .i64 x1, some (.agg [.ptr 5 0, .lit (.bool z1.fVideo)]))), .blk [.lit (.int .i64 x0.fSched.fMost), .mp 3, .mp 4, .lit (.int .i64 x0.fSched.fAt), .lit (.bool x0.fSched.fGranted)], .mapo (encM (kI .i64) (kI .i64) x0.fSched.fShare), .mapo (encM (kI .i64) (kI .i64) x0.fSched.fLeft), .blk z1.fQueue.enc, .blk [.ptr 5 0, .lit (.bool z1.fVideo)]]⟩ (AWp.reg Try.tyOk hΓ (keep := [8]) (dead := [23, 0, 1, 2, 3]) (by kernel_rfl) rfl (by simp)) ?_
      refine AWp.see (See.closeS (M' := [.blk (x0.fConfig.enc ++ [.mp 1, .ptr 2 0, .lit (.int .i64 x0.fCredit), .lit (.int .i64 x0.fSounds)]), .own (EgressFlow.own .i64 x0.fFlows none) none, .blk [.lit (.int .i64 x0.fSched.fMost), .mp 3, .mp 4, .lit (.int .i64 x0.fSched.fAt), .lit (.bool x0.fSched.fGranted)], .mapo (encM (kI .i64) (kI .i64) x0.fSched.fShare), .mapo (encM (kI .i64) (kI .i64) x0.fSched.fLeft), .dead, .blk [.ptr 5 0, .lit (.bool z1.fVideo)]]) 1 x1 z1 x0.fFlows [5] h9 (by rfl) (by decide) (by simp) (by simp [into]) (by simp) (by rfl)) ?_
      refine AWp.ret ?_
      obtain rfl := some_inj hr
      refine fin_ret ?_
      simp
    · cases hb

@[simp] noncomputable def gEgressOutAdd.S : Sp
  | [.ptr i0 0, .lit (.int .i64 x1), .lit (.bool x2), .lit (.int .i64 x3)], M => match M[i0]? with
    | some (.blk c0) => (match nthE c0 5 with
    | some (.mp i1) => (match M[i1]? with
    | some (.own c1 none) => (match nthE c0 6 with
    | some (.ptr i2 0) => (match M[i2]? with
    | some (.blk c2) => (match nthE c2 1 with
    | some (.mp i3) => (match M[i3]? with
    | some (.mapo c3) => (match nthE c2 2 with
    | some (.mp i4) => (match M[i4]? with
    | some (.mapo c4) => (fun (y0 : EgressOut) => (fun (r : Int × EgressOut) => some { av := .lit (.int .i64 (r.1)), M := some (((((M.set i0 (.blk [.lit (.int .i64 (r.2.fConfig.fFrames)), .lit (.int .i64 (r.2.fConfig.fBytes)), .lit (.int .i64 (r.2.fConfig.fAge)), .lit (.int .i64 (r.2.fConfig.fMost)), .lit (.int .i64 (r.2.fConfig.fGuard)), .mp i1, .ptr i2 0, .lit (.int .i64 (r.2.fCredit)), .lit (.int .i64 (r.2.fSounds))])).set i1 (.own (EgressFlow.own .i64 (r.2.fFlows) none) none)).set i2 (.blk [.lit (.int .i64 (r.2.fSched.fMost)), .mp i3, .mp i4, .lit (.int .i64 (r.2.fSched.fAt)), .lit (.bool (r.2.fSched.fGranted))])).set i3 (.mapo (encM (kI .i64) (kI .i64) (r.2.fSched.fShare)))).set i4 (.mapo (encM (kI .i64) (kI .i64) (r.2.fSched.fLeft)))), obl := c0 = EgressOut.enc y0 i1 i2 ∧ c1 = EgressFlow.own .i64 (y0.fFlows) none ∧ c2 = DrrSched.enc (y0.fSched) i3 i4 ∧ c3 = encM (kI .i64) (kI .i64) (y0.fSched.fShare) ∧ c4 = encM (kI .i64) (kI .i64) (y0.fSched.fLeft) ∧ (gEgressOutAdd y0 x1 x2 x3).isSome = true ∧ i0 ≠ i1 ∧ i0 ≠ i2 ∧ i0 ≠ i3 ∧ i0 ≠ i4 ∧ i1 ≠ i2 ∧ i1 ≠ i3 ∧ i1 ≠ i4 ∧ i2 ≠ i3 ∧ i2 ≠ i4 ∧ i3 ≠ i4 }) ((gEgressOutAdd y0 x1 x2 x3).getD dflt)) (EgressOut.dec c0 (decM dkI EgressFlow.dfl c1.data) (DrrSched.dec c2 (decM dkI dkI c3) (decM dkI dkI c4)))
    | _ => none)
    | _ => none)
    | _ => none)
    | _ => none)
    | _ => none)
    | _ => none)
    | _ => none)
    | _ => none)
    | _ => none
  | _, _ => none

set_option maxHeartbeats 1000000 in
theorem gEgressOutAdd.ok : SpecOk Try.prog 11 gEgressOutAdd.S := by
  intro l M out h
  unfold gEgressOutAdd.S at h
  split at h
  · rename_i i0 x1 x2 x3
    split at h
    case h_2 => cases h
    rename_i c0 hM0
    split at h
    case h_2 => cases h
    rename_i i1 he1
    split at h
    case h_2 => cases h
    rename_i c1 hM1
    split at h
    case h_2 => cases h
    rename_i i2 he2
    split at h
    case h_2 => cases h
    rename_i c2 hM2
    split at h
    case h_2 => cases h
    rename_i i3 he3
    split at h
    case h_2 => cases h
    rename_i c3 hM3
    split at h
    case h_2 => cases h
    rename_i i4 he4
    split at h
    case h_2 => cases h
    rename_i c4 hM4
    try dsimp only at h
    cases h
    refine callOk_of fun ho => ?_
    obtain ⟨oc0, oc1, oc2, oc3, oc4, hs, hne0, hne1, hne2, hne3, hne4, hne5, hne6, hne7, hne8, hne9⟩ := ho
    generalize (EgressOut.dec c0 (decM dkI EgressFlow.dfl c1.data) (DrrSched.dec c2 (decM dkI dkI c3) (decM dkI dkI c4))) = y0 at *
    subst oc0
    subst oc1
    subst oc2
    subst oc3
    subst oc4
    obtain ⟨r, hr⟩ := Option.isSome_iff_exists.1 hs
    simp only [hr, Option.getD_some]
    have q := call_frame (M := M) [i0, i1, i2, i3, i4] (gEgressOutAdd.can y0 x1 x2 x3 r hr) (by simp [hne0, hne1, hne2, hne3, hne4, hne5, hne6, hne7, hne8, hne9]) rfl (by intro k i hk; (cases k with | zero => (simp at hk; subst hk; simp [hM0, into]) | succ k => ((cases k with | zero => (simp at hk; subst hk; simp [hM1]) | succ k => ((cases k with | zero => (simp at hk; subst hk; simp [hM2, into]) | succ k => ((cases k with | zero => (simp at hk; subst hk; simp [hM3]) | succ k => ((cases k with | zero => (simp at hk; subst hk; simp [hM4]) | succ k => (simp at hk)))))))))))
    exact callOk_conv q trivial (by simp [into]) (by simp [frameOut, gEgressOutAdd.out, into]) (by simp [frameOut, gEgressOutAdd.out, into])
  · cases h

@[simp] noncomputable def gEgressOutRemove.S : Sp
  | [.ptr i0 0, .lit (.int .i64 x1)], M => match M[i0]? with
    | some (.blk c0) => (match nthE c0 5 with
    | some (.mp i1) => (match M[i1]? with
    | some (.own c1 none) => (match nthE c0 6 with
    | some (.ptr i2 0) => (match M[i2]? with
    | some (.blk c2) => (match nthE c2 1 with
    | some (.mp i3) => (match M[i3]? with
    | some (.mapo c3) => (match nthE c2 2 with
    | some (.mp i4) => (match M[i4]? with
    | some (.mapo c4) => (fun (y0 : EgressOut) => (fun (r : List Antiphonref20Sent × Int × EgressOut) => some { av := .tup [.sl ((r.1).map Antiphonref20Sent.enc) .no, .lit (.int .i64 (r.2.1))], M := some (((((M.set i0 (.blk [.lit (.int .i64 (r.2.2.fConfig.fFrames)), .lit (.int .i64 (r.2.2.fConfig.fBytes)), .lit (.int .i64 (r.2.2.fConfig.fAge)), .lit (.int .i64 (r.2.2.fConfig.fMost)), .lit (.int .i64 (r.2.2.fConfig.fGuard)), .mp i1, .ptr i2 0, .lit (.int .i64 (r.2.2.fCredit)), .lit (.int .i64 (r.2.2.fSounds))])).set i1 (.own (EgressFlow.own .i64 (r.2.2.fFlows) none) none)).set i2 (.blk [.lit (.int .i64 (r.2.2.fSched.fMost)), .mp i3, .mp i4, .lit (.int .i64 (r.2.2.fSched.fAt)), .lit (.bool (r.2.2.fSched.fGranted))])).set i3 (.mapo (encM (kI .i64) (kI .i64) (r.2.2.fSched.fShare)))).set i4 (.mapo (encM (kI .i64) (kI .i64) (r.2.2.fSched.fLeft)))), obl := c0 = EgressOut.enc y0 i1 i2 ∧ c1 = EgressFlow.own .i64 (y0.fFlows) none ∧ c2 = DrrSched.enc (y0.fSched) i3 i4 ∧ c3 = encM (kI .i64) (kI .i64) (y0.fSched.fShare) ∧ c4 = encM (kI .i64) (kI .i64) (y0.fSched.fLeft) ∧ (gEgressOutRemove y0 x1).isSome = true ∧ i0 ≠ i1 ∧ i0 ≠ i2 ∧ i0 ≠ i3 ∧ i0 ≠ i4 ∧ i1 ≠ i2 ∧ i1 ≠ i3 ∧ i1 ≠ i4 ∧ i2 ≠ i3 ∧ i2 ≠ i4 ∧ i3 ≠ i4 }) ((gEgressOutRemove y0 x1).getD dflt)) (EgressOut.dec c0 (decM dkI EgressFlow.dfl c1.data) (DrrSched.dec c2 (decM dkI dkI c3) (decM dkI dkI c4)))
    | _ => none)
    | _ => none)
    | _ => none)
    | _ => none)
    | _ => none)
    | _ => none)
    | _ => none)
    | _ => none)
    | _ => none
  | _, _ => none

@[simp] def gEgressOutPut.out (_x0 : EgressOut) (_x1 : Int) (_x2 : Antiphonref18Item) (r : List Antiphonref20Sent × Bool × EgressOut) : Out := { av := .tup [.sl (r.1.map Antiphonref20Sent.enc) .no, .lit (.bool r.2.1)], M := some [.blk [.lit (.int .i64 r.2.2.fConfig.fFrames), .lit (.int .i64 r.2.2.fConfig.fBytes), .lit (.int .i64 r.2.2.fConfig.fAge), .lit (.int .i64 r.2.2.fConfig.fMost), .lit (.int .i64 r.2.2.fConfig.fGuard), .mp 1, .ptr 2 0, .lit (.int .i64 r.2.2.fCredit), .lit (.int .i64 r.2.2.fSounds)], .own (EgressFlow.own .i64 r.2.2.fFlows none) none, .blk [.lit (.int .i64 r.2.2.fSched.fMost), .mp 3, .mp 4, .lit (.int .i64 r.2.2.fSched.fAt), .lit (.bool r.2.2.fSched.fGranted)], .mapo (encM (kI .i64) (kI .i64) r.2.2.fSched.fShare), .mapo (encM (kI .i64) (kI .i64) r.2.2.fSched.fLeft)] }
set_option maxHeartbeats 4000000 in
set_option maxRecDepth 100000 in
theorem gEgressOutPut.can (x0 : EgressOut) (x1 : Int) (x2 : Antiphonref18Item) (r : List Antiphonref20Sent × Bool × EgressOut) (hr : gEgressOutPut x0 x1 x2 = some r) : CallOk Try.prog 22 [.ptr 0 0, .lit (.int .i64 x1), .agg [.lit (.int .i64 x2.fN), .lit (.int .i64 x2.fSize), .lit (.int .i64 x2.fTick), .lit (.bool x2.fKey)]] [.blk (x0.fConfig.enc ++ [.mp 1, .ptr 2 0, .lit (.int .i64 x0.fCredit), .lit (.int .i64 x0.fSounds)]), .own (EgressFlow.own .i64 x0.fFlows none) none, .blk [.lit (.int .i64 x0.fSched.fMost), .mp 3, .mp 4, .lit (.int .i64 x0.fSched.fAt), .lit (.bool x0.fSched.fGranted)], .mapo (encM (kI .i64) (kI .i64) x0.fSched.fShare), .mapo (encM (kI .i64) (kI .i64) x0.fSched.fLeft)] (gEgressOutPut.out x0 x1 x2 r) := by
  unfold gEgressOutPut at hr
  have hΓ := (gamL_cons gQueueQueuePut.ok (gamL_cons gEgressAll.ok (gamL_nil)) : GamOk Try.prog _)
  refine call_of_awp Try.tyOk Try.func22 rfl (by kernel_rfl) rfl rfl (by simp) ?_
  intro _ _ _
  refine AWp.then ⟨[⟨5, none, .ptr 5 0⟩, ⟨0, none, .ptr 0 0⟩, ⟨1, none, .lit (.int .i64 x1)⟩], [.blk (x0.fConfig.enc ++ [.mp 1, .ptr 2 0, .lit (.int .i64 x0.fCredit), .lit (.int .i64 x0.fSounds)]), .own (EgressFlow.own .i64 x0.fFlows none) none, .blk [.lit (.int .i64 x0.fSched.fMost), .mp 3, .mp 4, .lit (.int .i64 x0.fSched.fAt), .lit (.bool x0.fSched.fGranted)], .mapo (encM (kI .i64) (kI .i64) x0.fSched.fShare), .mapo (encM (kI .i64) (kI .i64) x0.fSched.fLeft), .blk x2.enc]⟩ (AWp.reg Try.tyOk hΓ (keep := [5]) (dead := [2]) (by kernel_rfl) rfl (by simp)) ?_
  cases h5 : findM eqI x1 x0.fFlows with
  | none =>
    have hr := optC_n h5 hr
    refine AWp.see (See.missI (M' := [.blk (x0.fConfig.enc ++ [.mp 1, .ptr 2 0, .lit (.int .i64 x0.fCredit), .lit (.int .i64 x0.fSounds)]), .own (EgressFlow.own .i64 x0.fFlows none) (some (.int .i64 x1, none)), .blk [.lit (.int .i64 x0.fSched.fMost), .mp 3, .mp 4, .lit (.int .i64 x0.fSched.fAt), .lit (.bool x0.fSched.fGranted)], .mapo (encM (kI .i64) (kI .i64) x0.fSched.fShare), .mapo (encM (kI .i64) (kI .i64) x0.fSched.fLeft), .blk x2.enc]) 1 x1 x0.fFlows h5 (by rfl) (by rfl)) ?_
    refine AWp.then ⟨[⟨8, none, .ptr 6 0⟩, ⟨9, none, .lit (.bool false)⟩, ⟨5, none, .ptr 5 0⟩, ⟨0, none, .ptr 0 0⟩, ⟨1, none, .lit (.int .i64 x1)⟩], [.blk (x0.fConfig.enc ++ [.mp 1, .ptr 2 0, .lit (.int .i64 x0.fCredit), .lit (.int .i64 x0.fSounds)]), .own (EgressFlow.own .i64 x0.fFlows none) (some (.int .i64 x1, none)), .blk [.lit (.int .i64 x0.fSched.fMost), .mp 3, .mp 4, .lit (.int .i64 x0.fSched.fAt), .lit (.bool x0.fSched.fGranted)], .mapo (encM (kI .i64) (kI .i64) x0.fSched.fShare), .mapo (encM (kI .i64) (kI .i64) x0.fSched.fLeft), .blk x2.enc, .blk [.lit (.pointer none), .lit (.bool false)]]⟩ (AWp.reg Try.tyOk hΓ (keep := [8, 9]) (dead := []) (by kernel_rfl) rfl (by simp)) ?_
    refine AWp.seq ?_
    refine AWp.then ⟨[⟨32, none, .lit (.bool true)⟩, ⟨8, none, .ptr 6 0⟩, ⟨5, none, .ptr 5 0⟩, ⟨1, none, .lit (.int .i64 x1)⟩], [.blk (x0.fConfig.enc ++ [.mp 1, .ptr 2 0, .lit (.int .i64 x0.fCredit), .lit (.int .i64 x0.fSounds)]), .own (EgressFlow.own .i64 x0.fFlows none) (some (.int .i64 x1, none)), .blk [.lit (.int .i64 x0.fSched.fMost), .mp 3, .mp 4, .lit (.int .i64 x0.fSched.fAt), .lit (.bool x0.fSched.fGranted)], .mapo (encM (kI .i64) (kI .i64) x0.fSched.fShare), .mapo (encM (kI .i64) (kI .i64) x0.fSched.fLeft), .blk x2.enc, .blk [.lit (.pointer none), .lit (.bool false)]]⟩ (AWp.regD Try.mixed Try.tyOk hΓ (keep := [32]) (dead := [9, 0]) [] [(false, []), (false, []), (false, []), (false, [23]), (false, [23]), (false, [23]), (false, [23]), (false, [23]), (false, [23]), (false, [23]), (false, [23]), (false, [])] (by kernel_rfl) rfl (by simp)) ?_
    refine AWp.cond (b := true) (by simp) (fun hb => ?_) (fun hb => ?_)
    · refine AWp.then ⟨[⟨6, none, .sl [] .full⟩, ⟨7, none, .lit (.bool false)⟩], [.blk (x0.fConfig.enc ++ [.mp 1, .ptr 2 0, .lit (.int .i64 x0.fCredit), .lit (.int .i64 x0.fSounds)]), .own (EgressFlow.own .i64 x0.fFlows none) (some (.int .i64 x1, none)), .blk [.lit (.int .i64 x0.fSched.fMost), .mp 3, .mp 4, .lit (.int .i64 x0.fSched.fAt), .lit (.bool x0.fSched.fGranted)], .mapo (encM (kI .i64) (kI .i64) x0.fSched.fShare), .mapo (encM (kI .i64) (kI .i64) x0.fSched.fLeft), .blk x2.enc, .blk [.lit (.pointer none), .lit (.bool false)]]⟩ (AWp.reg Try.tyOk hΓ (keep := [6, 7]) (dead := [32, 8, 5, 1]) (by kernel_rfl) rfl (by simp)) ?_
      refine AWp.see (See.shutM (M' := [.blk (x0.fConfig.enc ++ [.mp 1, .ptr 2 0, .lit (.int .i64 x0.fCredit), .lit (.int .i64 x0.fSounds)]), .own (EgressFlow.own .i64 x0.fFlows none) none, .blk [.lit (.int .i64 x0.fSched.fMost), .mp 3, .mp 4, .lit (.int .i64 x0.fSched.fAt), .lit (.bool x0.fSched.fGranted)], .mapo (encM (kI .i64) (kI .i64) x0.fSched.fShare), .mapo (encM (kI .i64) (kI .i64) x0.fSched.fLeft), .blk x2.enc, .blk [.lit (.pointer none), .lit (.bool false)]]) 1 (by rfl) (by rfl)) ?_
      refine AWp.ret ?_
      obtain rfl := some_inj hr
      refine fin_ret ?_
      simp
    · cases hb
  | some z1 =>
    have hr := optC_s h5 hr
    refine AWp.see (See.openI (M' := [.blk (x0.fConfig.enc ++ [.mp 1, .ptr 2 0, .lit (.int .i64 x0.fCredit), .lit (.int .i64 x0.fSounds)]), .own (EgressFlow.own .i64 x0.fFlows (some (.int .i64 x1))) (some (.int .i64 x1, some (.agg [.ptr 6 0, .lit (.bool z1.fVideo)]))), .blk [.lit (.int .i64 x0.fSched.fMost), .mp 3, .mp 4, .lit (.int .i64 x0.fSched.fAt), .lit (.bool x0.fSched.fGranted)], .mapo (encM (kI .i64) (kI .i64) x0.fSched.fShare), .mapo (encM (kI .i64) (kI .i64) x0.fSched.fLeft), .blk x2.enc, .blk z1.fQueue.enc]) 1 x1 z1 x0.fFlows h5 (by rfl) (by simp)) ?_
    refine AWp.then ⟨[⟨8, none, .ptr 7 0⟩, ⟨9, none, .lit (.bool true)⟩, ⟨5, none, .ptr 5 0⟩, ⟨0, none, .ptr 0 0⟩, ⟨1, none, .lit (.int .i64 x1)⟩], [.blk (x0.fConfig.enc ++ [.mp 1, .ptr 2 0, .lit (.int .i64 x0.fCredit), .lit (.int .i64 x0.fSounds)]), .own (EgressFlow.own .i64 x0.fFlows (some (.int .i64 x1))) (some (.int .i64 x1, some (.agg [.ptr 6 0, .lit (.bool z1.fVideo)]))), .blk [.lit (.int .i64 x0.fSched.fMost), .mp 3, .mp 4, .lit (.int .i64 x0.fSched.fAt), .lit (.bool x0.fSched.fGranted)], .mapo (encM (kI .i64) (kI .i64) x0.fSched.fShare), .mapo (encM (kI .i64) (kI .i64) x0.fSched.fLeft), .blk x2.enc, .blk z1.fQueue.enc, .blk [.ptr 6 0, .lit (.bool z1.fVideo)]]⟩ (AWp.reg Try.tyOk hΓ (keep := [8, 9]) (dead := []) (by kernel_rfl) rfl (by simp)) ?_
    refine AWp.seq ?_
    refine AWp.then ⟨[⟨32, none, .lit (.bool (ltI x0.fConfig.fMost x2.fSize))⟩, ⟨8, none, .ptr 7 0⟩, ⟨5, none, .ptr 5 0⟩, ⟨1, none, .lit (.int .i64 x1)⟩], [.blk (x0.fConfig.enc ++ [.mp 1, .ptr 2 0, .lit (.int .i64 x0.fCredit), .lit (.int .i64 x0.fSounds)]), .own (EgressFlow.own .i64 x0.fFlows (some (.int .i64 x1))) (some (.int .i64 x1, some (.agg [.ptr 6 0, .lit (.bool z1.fVideo)]))), .blk [.lit (.int .i64 x0.fSched.fMost), .mp 3, .mp 4, .lit (.int .i64 x0.fSched.fAt), .lit (.bool x0.fSched.fGranted)], .mapo (encM (kI .i64) (kI .i64) x0.fSched.fShare), .mapo (encM (kI .i64) (kI .i64) x0.fSched.fLeft), .blk x2.enc, .blk z1.fQueue.enc, .blk [.ptr 6 0, .lit (.bool z1.fVideo)]]⟩ (AWp.regD Try.mixed Try.tyOk hΓ (keep := [32]) (dead := [9, 0]) [] [(false, []), (false, []), (false, []), (false, [23]), (false, [23]), (false, [23]), (false, [23]), (false, [23]), (false, [23]), (false, [23]), (false, [23]), (false, [])] (by kernel_rfl) rfl (by simp)) ?_
    refine AWp.cond (b := (ltI x0.fConfig.fMost x2.fSize)) (by simp) (fun h6 => ?_) (fun h6 => ?_)
    · have hr := cond_t h6 hr
      refine AWp.then ⟨[⟨6, none, .sl [] .full⟩, ⟨7, none, .lit (.bool false)⟩], [.blk (x0.fConfig.enc ++ [.mp 1, .ptr 2 0, .lit (.int .i64 x0.fCredit), .lit (.int .i64 x0.fSounds)]), .own (EgressFlow.own .i64 x0.fFlows (some (.int .i64 x1))) (some (.int .i64 x1, some (.agg [.ptr 6 0, .lit (.bool z1.fVideo)]))), .blk [.lit (.int .i64 x0.fSched.fMost), .mp 3, .mp 4, .lit (.int .i64 x0.fSched.fAt), .lit (.bool x0.fSched.fGranted)], .mapo (encM (kI .i64) (kI .i64) x0.fSched.fShare), .mapo (encM (kI .i64) (kI .i64) x0.fSched.fLeft), .blk x2.enc, .blk z1.fQueue.enc, .blk [.ptr 6 0, .lit (.bool z1.fVideo)]]⟩ (AWp.reg Try.tyOk hΓ (keep := [6, 7]) (dead := [32, 8, 5, 1]) (by kernel_rfl) rfl (by simp [h6])) ?_
      refine AWp.see (See.closeS (M' := [.blk (x0.fConfig.enc ++ [.mp 1, .ptr 2 0, .lit (.int .i64 x0.fCredit), .lit (.int .i64 x0.fSounds)]), .own (EgressFlow.own .i64 x0.fFlows none) none, .blk [.lit (.int .i64 x0.fSched.fMost), .mp 3, .mp 4, .lit (.int .i64 x0.fSched.fAt), .lit (.bool x0.fSched.fGranted)], .mapo (encM (kI .i64) (kI .i64) x0.fSched.fShare), .mapo (encM (kI .i64) (kI .i64) x0.fSched.fLeft), .blk x2.enc, .dead, .blk [.ptr 6 0, .lit (.bool z1.fVideo)]]) 1 x1 z1 x0.fFlows [6] h5 (by rfl) (by decide) (by simp) (by simp [into]) (by simp) (by rfl)) ?_
      refine AWp.ret ?_
      obtain rfl := some_inj hr
      refine fin_ret ?_
      simp
    · have hr := cond_f h6 hr
      refine AWp.skip ?_
      refine AWp.then ⟨[⟨8, none, .ptr 7 0⟩, ⟨5, none, .ptr 5 0⟩, ⟨1, none, .lit (.int .i64 x1)⟩], [.blk (x0.fConfig.enc ++ [.mp 1, .ptr 2 0, .lit (.int .i64 x0.fCredit), .lit (.int .i64 x0.fSounds)]), .own (EgressFlow.own .i64 x0.fFlows (some (.int .i64 x1))) (some (.int .i64 x1, some (.agg [.ptr 6 0, .lit (.bool z1.fVideo)]))), .blk [.lit (.int .i64 x0.fSched.fMost), .mp 3, .mp 4, .lit (.int .i64 x0.fSched.fAt), .lit (.bool x0.fSched.fGranted)], .mapo (encM (kI .i64) (kI .i64) x0.fSched.fShare), .mapo (encM (kI .i64) (kI .i64) x0.fSched.fLeft), .blk [.lit (.int .i64 x2.fN), .lit (.int .i64 x2.fSize), .lit (.int .i64 x2.fTick), .lit (.bool (pickB x2.fKey true (notB z1.fVideo)))], .blk z1.fQueue.enc, .blk [.ptr 6 0, .lit (.bool z1.fVideo)]]⟩ (AWp.reg Try.tyOk hΓ (keep := []) (dead := [32]) (by kernel_rfl) rfl (by simp [h6])) ?_
      obtain ⟨r1, h7, hr⟩ := bind_some' hr
      refine AWp.then ⟨[⟨10, none, .sl (r1.1.map Antiphonref18Item.enc) .no⟩, ⟨11, none, .lit (.bool r1.2.1)⟩, ⟨1, none, .lit (.int .i64 x1)⟩], [.blk (x0.fConfig.enc ++ [.mp 1, .ptr 2 0, .lit (.int .i64 x0.fCredit), .lit (.int .i64 x0.fSounds)]), .own (EgressFlow.own .i64 x0.fFlows (some (.int .i64 x1))) (some (.int .i64 x1, some (.agg [.ptr 6 0, .lit (.bool z1.fVideo)]))), .blk [.lit (.int .i64 x0.fSched.fMost), .mp 3, .mp 4, .lit (.int .i64 x0.fSched.fAt), .lit (.bool x0.fSched.fGranted)], .mapo (encM (kI .i64) (kI .i64) x0.fSched.fShare), .mapo (encM (kI .i64) (kI .i64) x0.fSched.fLeft), .blk [.lit (.int .i64 x2.fN), .lit (.int .i64 x2.fSize), .lit (.int .i64 x2.fTick), .lit (.bool (pickB x2.fKey true (notB z1.fVideo)))], .blk r1.2.2.enc, .blk [.ptr 6 0, .lit (.bool z1.fVideo)]]⟩ (AWp.reg Try.tyOk hΓ (keep := [10, 11]) (dead := [8, 5]) (by kernel_rfl) rfl (by simp [h7])) ?_
      obtain ⟨r2, h8, hr⟩ := bind_some' hr
      refine AWp.then ⟨[⟨6, none, .sl (r2.map Antiphonref20Sent.enc) .no⟩, ⟨7, none, .lit (.bool r1.2.1)⟩], [.blk (x0.fConfig.enc ++ [.mp 1, .ptr 2 0, .lit (.int .i64 x0.fCredit), .lit (.int .i64 x0.fSounds)]), .own (EgressFlow.own .i64 x0.fFlows (some (.int .i64 x1))) (some (.int .i64 x1, some (.agg [.ptr 6 0, .lit (.bool z1.fVideo)]))), .blk [.lit (.int .i64 x0.fSched.fMost), .mp 3, .mp 4, .lit (.int .i64 x0.fSched.fAt), .lit (.bool x0.fSched.fGranted)], .mapo (encM (kI .i64) (kI .i64) x0.fSched.fShare), .mapo (encM (kI .i64) (kI .i64) x0.fSched.fLeft), .blk [.lit (.int .i64 x2.fN), .lit (.int .i64 x2.fSize), .lit (.int .i64 x2.fTick), .lit (.bool (pickB x2.fKey true (notB z1.fVideo)))], .blk r1.2.2.enc, .blk [.ptr 6 0, .lit (.bool z1.fVideo)]]⟩ (AWp.reg Try.tyOk hΓ (keep := [6, 7]) (dead := [10, 11, 1]) (by kernel_rfl) rfl (by simp [h8])) ?_
      refine AWp.see (See.closeI (M' := [.blk (x0.fConfig.enc ++ [.mp 1, .ptr 2 0, .lit (.int .i64 x0.fCredit), .lit (.int .i64 x0.fSounds)]), .own (EgressFlow.own .i64 (setM eqI x1 (EgressFlow.mk r1.2.2 z1.fVideo) x0.fFlows) none) none, .blk [.lit (.int .i64 x0.fSched.fMost), .mp 3, .mp 4, .lit (.int .i64 x0.fSched.fAt), .lit (.bool x0.fSched.fGranted)], .mapo (encM (kI .i64) (kI .i64) x0.fSched.fShare), .mapo (encM (kI .i64) (kI .i64) x0.fSched.fLeft), .blk [.lit (.int .i64 x2.fN), .lit (.int .i64 x2.fSize), .lit (.int .i64 x2.fTick), .lit (.bool (pickB x2.fKey true (notB z1.fVideo)))], .dead, .blk [.ptr 6 0, .lit (.bool z1.fVideo)]]) 1 x1 (EgressFlow.mk r1.2.2 z1.fVideo) x0.fFlows [6] (by rfl) (by decide) (by simp) (by simp [into]) (by simp) (by rfl)) ?_
      refine AWp.ret ?_
      obtain rfl := some_inj hr
      refine fin_ret ?_
      simp

@[simp] noncomputable def gEgressOutPut.S : Sp
  | [.ptr i0 0, .lit (.int .i64 x1), .agg e2], M => match M[i0]? with
    | some (.blk c0) => (match nthE c0 5 with
    | some (.mp i1) => (match M[i1]? with
    | some (.own c1 none) => (match nthE c0 6 with
    | some (.ptr i2 0) => (match M[i2]? with
    | some (.blk c2) => (match nthE c2 1 with
    | some (.mp i3) => (match M[i3]? with
    | some (.mapo c3) => (match nthE c2 2 with
    | some (.mp i4) => (match M[i4]? with
    | some (.mapo c4) => (fun (y0 : EgressOut) => (fun (y1 : Antiphonref18Item) => (fun (r : List Antiphonref20Sent × Bool × EgressOut) => some { av := .tup [.sl ((r.1).map Antiphonref20Sent.enc) .no, .lit (.bool (r.2.1))], M := some (((((M.set i0 (.blk [.lit (.int .i64 (r.2.2.fConfig.fFrames)), .lit (.int .i64 (r.2.2.fConfig.fBytes)), .lit (.int .i64 (r.2.2.fConfig.fAge)), .lit (.int .i64 (r.2.2.fConfig.fMost)), .lit (.int .i64 (r.2.2.fConfig.fGuard)), .mp i1, .ptr i2 0, .lit (.int .i64 (r.2.2.fCredit)), .lit (.int .i64 (r.2.2.fSounds))])).set i1 (.own (EgressFlow.own .i64 (r.2.2.fFlows) none) none)).set i2 (.blk [.lit (.int .i64 (r.2.2.fSched.fMost)), .mp i3, .mp i4, .lit (.int .i64 (r.2.2.fSched.fAt)), .lit (.bool (r.2.2.fSched.fGranted))])).set i3 (.mapo (encM (kI .i64) (kI .i64) (r.2.2.fSched.fShare)))).set i4 (.mapo (encM (kI .i64) (kI .i64) (r.2.2.fSched.fLeft)))), obl := WeakL e2 (Antiphonref18Item.enc y1) ∧ c0 = EgressOut.enc y0 i1 i2 ∧ c1 = EgressFlow.own .i64 (y0.fFlows) none ∧ c2 = DrrSched.enc (y0.fSched) i3 i4 ∧ c3 = encM (kI .i64) (kI .i64) (y0.fSched.fShare) ∧ c4 = encM (kI .i64) (kI .i64) (y0.fSched.fLeft) ∧ (gEgressOutPut y0 x1 y1).isSome = true ∧ i0 ≠ i1 ∧ i0 ≠ i2 ∧ i0 ≠ i3 ∧ i0 ≠ i4 ∧ i1 ≠ i2 ∧ i1 ≠ i3 ∧ i1 ≠ i4 ∧ i2 ≠ i3 ∧ i2 ≠ i4 ∧ i3 ≠ i4 }) ((gEgressOutPut y0 x1 y1).getD dflt)) (Antiphonref18Item.dec e2)) (EgressOut.dec c0 (decM dkI EgressFlow.dfl c1.data) (DrrSched.dec c2 (decM dkI dkI c3) (decM dkI dkI c4)))
    | _ => none)
    | _ => none)
    | _ => none)
    | _ => none)
    | _ => none)
    | _ => none)
    | _ => none)
    | _ => none)
    | _ => none
  | _, _ => none

set_option maxHeartbeats 1000000 in
theorem gEgressOutPut.ok : SpecOk Try.prog 22 gEgressOutPut.S := by
  intro l M out h
  unfold gEgressOutPut.S at h
  split at h
  · rename_i i0 x1 e2
    split at h
    case h_2 => cases h
    rename_i c0 hM0
    split at h
    case h_2 => cases h
    rename_i i1 he1
    split at h
    case h_2 => cases h
    rename_i c1 hM1
    split at h
    case h_2 => cases h
    rename_i i2 he2
    split at h
    case h_2 => cases h
    rename_i c2 hM2
    split at h
    case h_2 => cases h
    rename_i i3 he3
    split at h
    case h_2 => cases h
    rename_i c3 hM3
    split at h
    case h_2 => cases h
    rename_i i4 he4
    split at h
    case h_2 => cases h
    rename_i c4 hM4
    try dsimp only at h
    cases h
    refine callOk_of fun ho => ?_
    obtain ⟨ox2, oc0, oc1, oc2, oc3, oc4, hs, hne0, hne1, hne2, hne3, hne4, hne5, hne6, hne7, hne8, hne9⟩ := ho
    generalize (EgressOut.dec c0 (decM dkI EgressFlow.dfl c1.data) (DrrSched.dec c2 (decM dkI dkI c3) (decM dkI dkI c4))) = y0 at *
    generalize (Antiphonref18Item.dec e2) = x2 at *
    subst oc0
    subst oc1
    subst oc2
    subst oc3
    subst oc4
    obtain ⟨r, hr⟩ := Option.isSome_iff_exists.1 hs
    simp only [hr, Option.getD_some]
    have q := call_frame (M := M) [i0, i1, i2, i3, i4] (gEgressOutPut.can y0 x1 x2 r hr) (by simp [hne0, hne1, hne2, hne3, hne4, hne5, hne6, hne7, hne8, hne9]) rfl (by intro k i hk; (cases k with | zero => (simp at hk; subst hk; simp [hM0, into]) | succ k => ((cases k with | zero => (simp at hk; subst hk; simp [hM1]) | succ k => ((cases k with | zero => (simp at hk; subst hk; simp [hM2, into]) | succ k => ((cases k with | zero => (simp at hk; subst hk; simp [hM3]) | succ k => ((cases k with | zero => (simp at hk; subst hk; simp [hM4]) | succ k => (simp at hk)))))))))))
    exact callOk_conv q trivial (by simp [into]; exact ox2) (by simp [frameOut, gEgressOutPut.out, into]) (by simp [frameOut, gEgressOutPut.out, into])
  · cases h

@[simp] def gEgressOutBroken.out (_x0 : EgressOut) (_x1 : Int) (r : Bool) : Out := { av := .lit (.bool r), M := none }
set_option maxHeartbeats 4000000 in
set_option maxRecDepth 100000 in
theorem gEgressOutBroken.can (x0 : EgressOut) (x1 : Int) (r : Bool) (hr : gEgressOutBroken x0 x1 = some r) : CallOk Try.prog 12 [.ptr 0 0, .lit (.int .i64 x1)] [.blk (x0.fConfig.enc ++ [.mp 1, .ptr 2 0, .lit (.int .i64 x0.fCredit), .lit (.int .i64 x0.fSounds)]), .own (EgressFlow.own .i64 x0.fFlows none) none, .blk [.lit (.int .i64 x0.fSched.fMost), .mp 3, .mp 4, .lit (.int .i64 x0.fSched.fAt), .lit (.bool x0.fSched.fGranted)], .mapo (encM (kI .i64) (kI .i64) x0.fSched.fShare), .mapo (encM (kI .i64) (kI .i64) x0.fSched.fLeft)] (gEgressOutBroken.out x0 x1 r) := by
  unfold gEgressOutBroken at hr
  have hΓ := (gamL_cons gQueueQueueBroken.ok (gamL_nil) : GamOk Try.prog _)
  refine call_of_awp Try.tyOk Try.func12 rfl (by kernel_rfl) rfl rfl (by simp) ?_
  intro _ _ _
  refine AWp.then ⟨[⟨0, none, .ptr 0 0⟩, ⟨1, none, .lit (.int .i64 x1)⟩], [.blk (x0.fConfig.enc ++ [.mp 1, .ptr 2 0, .lit (.int .i64 x0.fCredit), .lit (.int .i64 x0.fSounds)]), .own (EgressFlow.own .i64 x0.fFlows none) none, .blk [.lit (.int .i64 x0.fSched.fMost), .mp 3, .mp 4, .lit (.int .i64 x0.fSched.fAt), .lit (.bool x0.fSched.fGranted)], .mapo (encM (kI .i64) (kI .i64) x0.fSched.fShare), .mapo (encM (kI .i64) (kI .i64) x0.fSched.fLeft)]⟩ (AWp.reg Try.tyOk hΓ (keep := []) (dead := []) (by kernel_rfl) rfl (by simp)) ?_
  cases h3 : findM eqI x1 x0.fFlows with
  | none =>
    have hr := optC_n h3 hr
    refine AWp.see (See.missI (M' := [.blk (x0.fConfig.enc ++ [.mp 1, .ptr 2 0, .lit (.int .i64 x0.fCredit), .lit (.int .i64 x0.fSounds)]), .own (EgressFlow.own .i64 x0.fFlows none) (some (.int .i64 x1, none)), .blk [.lit (.int .i64 x0.fSched.fMost), .mp 3, .mp 4, .lit (.int .i64 x0.fSched.fAt), .lit (.bool x0.fSched.fGranted)], .mapo (encM (kI .i64) (kI .i64) x0.fSched.fShare), .mapo (encM (kI .i64) (kI .i64) x0.fSched.fLeft)]) 1 x1 x0.fFlows h3 (by rfl) (by rfl)) ?_
    refine AWp.then ⟨[⟨5, none, .ptr 5 0⟩, ⟨6, none, .lit (.bool false)⟩], [.blk (x0.fConfig.enc ++ [.mp 1, .ptr 2 0, .lit (.int .i64 x0.fCredit), .lit (.int .i64 x0.fSounds)]), .own (EgressFlow.own .i64 x0.fFlows none) (some (.int .i64 x1, none)), .blk [.lit (.int .i64 x0.fSched.fMost), .mp 3, .mp 4, .lit (.int .i64 x0.fSched.fAt), .lit (.bool x0.fSched.fGranted)], .mapo (encM (kI .i64) (kI .i64) x0.fSched.fShare), .mapo (encM (kI .i64) (kI .i64) x0.fSched.fLeft), .blk [.lit (.pointer none), .lit (.bool false)]]⟩ (AWp.reg Try.tyOk hΓ (keep := [5, 6]) (dead := [0, 1]) (by kernel_rfl) rfl (by simp)) ?_
    refine AWp.then ⟨[⟨4, none, .lit (.bool false)⟩], [.blk (x0.fConfig.enc ++ [.mp 1, .ptr 2 0, .lit (.int .i64 x0.fCredit), .lit (.int .i64 x0.fSounds)]), .own (EgressFlow.own .i64 x0.fFlows none) (some (.int .i64 x1, none)), .blk [.lit (.int .i64 x0.fSched.fMost), .mp 3, .mp 4, .lit (.int .i64 x0.fSched.fAt), .lit (.bool x0.fSched.fGranted)], .mapo (encM (kI .i64) (kI .i64) x0.fSched.fShare), .mapo (encM (kI .i64) (kI .i64) x0.fSched.fLeft), .blk [.lit (.pointer none), .lit (.bool false)]]⟩ (AWp.regG Try.tyOk hΓ [(17, false)] (keep := [4]) (dead := [5, 6]) (by kernel_rfl) rfl (by simp)) ?_
    refine AWp.see (See.shutM (M' := [.blk (x0.fConfig.enc ++ [.mp 1, .ptr 2 0, .lit (.int .i64 x0.fCredit), .lit (.int .i64 x0.fSounds)]), .own (EgressFlow.own .i64 x0.fFlows none) none, .blk [.lit (.int .i64 x0.fSched.fMost), .mp 3, .mp 4, .lit (.int .i64 x0.fSched.fAt), .lit (.bool x0.fSched.fGranted)], .mapo (encM (kI .i64) (kI .i64) x0.fSched.fShare), .mapo (encM (kI .i64) (kI .i64) x0.fSched.fLeft), .blk [.lit (.pointer none), .lit (.bool false)]]) 1 (by rfl) (by rfl)) ?_
    refine AWp.ret ?_
    obtain rfl := some_inj hr
    refine fin_ret ?_
    simp
  | some z1 =>
    have hr := optC_s h3 hr
    refine AWp.see (See.openI (M' := [.blk (x0.fConfig.enc ++ [.mp 1, .ptr 2 0, .lit (.int .i64 x0.fCredit), .lit (.int .i64 x0.fSounds)]), .own (EgressFlow.own .i64 x0.fFlows (some (.int .i64 x1))) (some (.int .i64 x1, some (.agg [.ptr 5 0, .lit (.bool z1.fVideo)]))), .blk [.lit (.int .i64 x0.fSched.fMost), .mp 3, .mp 4, .lit (.int .i64 x0.fSched.fAt), .lit (.bool x0.fSched.fGranted)], .mapo (encM (kI .i64) (kI .i64) x0.fSched.fShare), .mapo (encM (kI .i64) (kI .i64) x0.fSched.fLeft), .blk z1.fQueue.enc]) 1 x1 z1 x0.fFlows h3 (by rfl) (by simp)) ?_
    refine AWp.then ⟨[⟨5, none, .ptr 6 0⟩, ⟨6, none, .lit (.bool true)⟩], [.blk (x0.fConfig.enc ++ [.mp 1, .ptr 2 0, .lit (.int .i64 x0.fCredit), .lit (.int .i64 x0.fSounds)]), .own (EgressFlow.own .i64 x0.fFlows (some (.int .i64 x1))) (some (.int .i64 x1, some (.agg [.ptr 5 0, .lit (.bool z1.fVideo)]))), .blk [.lit (.int .i64 x0.fSched.fMost), .mp 3, .mp 4, .lit (.int .i64 x0.fSched.fAt), .lit (.bool x0.fSched.fGranted)], .mapo (encM (kI .i64) (kI .i64) x0.fSched.fShare), .mapo (encM (kI .i64) (kI .i64) x0.fSched.fLeft), .blk z1.fQueue.enc, .blk [.ptr 5 0, .lit (.bool z1.fVideo)]]⟩ (AWp.reg Try.tyOk hΓ (keep := [5, 6]) (dead := [0, 1]) (by kernel_rfl) rfl (by simp)) ?_
    obtain ⟨h4, hr⟩ := need_some hr
    refine AWp.then ⟨[⟨4, none, .lit (.bool ((gQueueQueueBroken z1.fQueue).getD dflt))⟩], [.blk (x0.fConfig.enc ++ [.mp 1, .ptr 2 0, .lit (.int .i64 x0.fCredit), .lit (.int .i64 x0.fSounds)]), .own (EgressFlow.own .i64 x0.fFlows (some (.int .i64 x1))) (some (.int .i64 x1, some (.agg [.ptr 5 0, .lit (.bool z1.fVideo)]))), .blk [.lit (.int .i64 x0.fSched.fMost), .mp 3, .mp 4, .lit (.int .i64 x0.fSched.fAt), .lit (.bool x0.fSched.fGranted)], .mapo (encM (kI .i64) (kI .i64) x0.fSched.fShare), .mapo (encM (kI .i64) (kI .i64) x0.fSched.fLeft), .blk z1.fQueue.enc, .blk [.ptr 5 0, .lit (.bool z1.fVideo)]]⟩ (AWp.reg Try.tyOk hΓ (keep := [4]) (dead := [5, 6]) (by kernel_rfl) rfl (by simp [h4])) ?_
    refine AWp.see (See.closeS (M' := [.blk (x0.fConfig.enc ++ [.mp 1, .ptr 2 0, .lit (.int .i64 x0.fCredit), .lit (.int .i64 x0.fSounds)]), .own (EgressFlow.own .i64 x0.fFlows none) none, .blk [.lit (.int .i64 x0.fSched.fMost), .mp 3, .mp 4, .lit (.int .i64 x0.fSched.fAt), .lit (.bool x0.fSched.fGranted)], .mapo (encM (kI .i64) (kI .i64) x0.fSched.fShare), .mapo (encM (kI .i64) (kI .i64) x0.fSched.fLeft), .dead, .blk [.ptr 5 0, .lit (.bool z1.fVideo)]]) 1 x1 z1 x0.fFlows [5] h3 (by rfl) (by decide) (by simp) (by simp [into]) (by simp) (by rfl)) ?_
    refine AWp.ret ?_
    obtain rfl := some_inj hr
    refine fin_ret ?_
    simp

@[simp] noncomputable def gEgressOutBroken.S : Sp
  | [.ptr i0 0, .lit (.int .i64 x1)], M => match M[i0]? with
    | some (.blk c0) => (match nthE c0 5 with
    | some (.mp i1) => (match M[i1]? with
    | some (.own c1 none) => (match nthE c0 6 with
    | some (.ptr i2 0) => (match M[i2]? with
    | some (.blk c2) => (match nthE c2 1 with
    | some (.mp i3) => (match M[i3]? with
    | some (.mapo c3) => (match nthE c2 2 with
    | some (.mp i4) => (match M[i4]? with
    | some (.mapo c4) => (fun (y0 : EgressOut) => some { av := .lit (.bool ((gEgressOutBroken y0 x1).getD dflt)), M := none, obl := c0 = EgressOut.enc y0 i1 i2 ∧ c1 = EgressFlow.own .i64 (y0.fFlows) none ∧ c2 = DrrSched.enc (y0.fSched) i3 i4 ∧ c3 = encM (kI .i64) (kI .i64) (y0.fSched.fShare) ∧ c4 = encM (kI .i64) (kI .i64) (y0.fSched.fLeft) ∧ (gEgressOutBroken y0 x1).isSome = true ∧ i0 ≠ i1 ∧ i0 ≠ i2 ∧ i0 ≠ i3 ∧ i0 ≠ i4 ∧ i1 ≠ i2 ∧ i1 ≠ i3 ∧ i1 ≠ i4 ∧ i2 ≠ i3 ∧ i2 ≠ i4 ∧ i3 ≠ i4 }) (EgressOut.dec c0 (decM dkI EgressFlow.dfl c1.data) (DrrSched.dec c2 (decM dkI dkI c3) (decM dkI dkI c4)))
    | _ => none)
    | _ => none)
    | _ => none)
    | _ => none)
    | _ => none)
    | _ => none)
    | _ => none)
    | _ => none)
    | _ => none
  | _, _ => none

set_option maxHeartbeats 1000000 in
theorem gEgressOutBroken.ok : SpecOk Try.prog 12 gEgressOutBroken.S := by
  intro l M out h
  unfold gEgressOutBroken.S at h
  split at h
  · rename_i i0 x1
    split at h
    case h_2 => cases h
    rename_i c0 hM0
    split at h
    case h_2 => cases h
    rename_i i1 he1
    split at h
    case h_2 => cases h
    rename_i c1 hM1
    split at h
    case h_2 => cases h
    rename_i i2 he2
    split at h
    case h_2 => cases h
    rename_i c2 hM2
    split at h
    case h_2 => cases h
    rename_i i3 he3
    split at h
    case h_2 => cases h
    rename_i c3 hM3
    split at h
    case h_2 => cases h
    rename_i i4 he4
    split at h
    case h_2 => cases h
    rename_i c4 hM4
    try dsimp only at h
    cases h
    refine callOk_of fun ho => ?_
    obtain ⟨oc0, oc1, oc2, oc3, oc4, hs, hne0, hne1, hne2, hne3, hne4, hne5, hne6, hne7, hne8, hne9⟩ := ho
    generalize (EgressOut.dec c0 (decM dkI EgressFlow.dfl c1.data) (DrrSched.dec c2 (decM dkI dkI c3) (decM dkI dkI c4))) = y0 at *
    subst oc0
    subst oc1
    subst oc2
    subst oc3
    subst oc4
    obtain ⟨r, hr⟩ := Option.isSome_iff_exists.1 hs
    simp only [hr, Option.getD_some]
    have q := call_frame (M := M) [i0, i1, i2, i3, i4] (gEgressOutBroken.can y0 x1 r hr) (by simp [hne0, hne1, hne2, hne3, hne4, hne5, hne6, hne7, hne8, hne9]) rfl (by intro k i hk; (cases k with | zero => (simp at hk; subst hk; simp [hM0, into]) | succ k => ((cases k with | zero => (simp at hk; subst hk; simp [hM1]) | succ k => ((cases k with | zero => (simp at hk; subst hk; simp [hM2, into]) | succ k => ((cases k with | zero => (simp at hk; subst hk; simp [hM3]) | succ k => ((cases k with | zero => (simp at hk; subst hk; simp [hM4]) | succ k => (simp at hk)))))))))))
    exact callOk_conv q trivial (by simp [into]) (by simp [frameOut, gEgressOutBroken.out, into]) (by simp only [frameOut, gEgressOutBroken.out, Option.getD_some, Option.getD_none]; simp [into, hM0, hM1, hM2, hM3, hM4, set_same])
  · cases h

@[simp] def gEgressOutGrant.out (_x0 : EgressOut) (_x1 : Int) (r : EgressOut) : Out := { av := .tup [], M := some [.blk [.lit (.int .i64 r.fConfig.fFrames), .lit (.int .i64 r.fConfig.fBytes), .lit (.int .i64 r.fConfig.fAge), .lit (.int .i64 r.fConfig.fMost), .lit (.int .i64 r.fConfig.fGuard), .mp 1, .ptr 2 0, .lit (.int .i64 r.fCredit), .lit (.int .i64 r.fSounds)], .own (EgressFlow.own .i64 r.fFlows none) none, .blk [.lit (.int .i64 r.fSched.fMost), .mp 3, .mp 4, .lit (.int .i64 r.fSched.fAt), .lit (.bool r.fSched.fGranted)], .mapo (encM (kI .i64) (kI .i64) r.fSched.fShare), .mapo (encM (kI .i64) (kI .i64) r.fSched.fLeft)] }
set_option maxHeartbeats 4000000 in
set_option maxRecDepth 100000 in
theorem gEgressOutGrant.can (x0 : EgressOut) (x1 : Int) (r : EgressOut) (hr : gEgressOutGrant x0 x1 = some r) : CallOk Try.prog 23 [.ptr 0 0, .lit (.int .i64 x1)] [.blk (x0.fConfig.enc ++ [.mp 1, .ptr 2 0, .lit (.int .i64 x0.fCredit), .lit (.int .i64 x0.fSounds)]), .own (EgressFlow.own .i64 x0.fFlows none) none, .blk [.lit (.int .i64 x0.fSched.fMost), .mp 3, .mp 4, .lit (.int .i64 x0.fSched.fAt), .lit (.bool x0.fSched.fGranted)], .mapo (encM (kI .i64) (kI .i64) x0.fSched.fShare), .mapo (encM (kI .i64) (kI .i64) x0.fSched.fLeft)] (gEgressOutGrant.out x0 x1 r) := by
  unfold gEgressOutGrant at hr
  have hΓ := gamL_nil (P := Try.prog)
  refine call_of_awp Try.tyOk Try.func23 rfl (by kernel_rfl) rfl rfl (by simp) ?_
  intro _ _ _
  refine AWp.last ⟨[], [.blk (x0.fConfig.enc ++ [.mp 1, .ptr 2 0, .lit (.int .i64 (minI (addI .i64 x0.fCredit (minI (maxI x1 0) 1099511627776)) 1099511627776)), .lit (.int .i64 x0.fSounds)]), .own (EgressFlow.own .i64 x0.fFlows none) none, .blk [.lit (.int .i64 x0.fSched.fMost), .mp 3, .mp 4, .lit (.int .i64 x0.fSched.fAt), .lit (.bool x0.fSched.fGranted)], .mapo (encM (kI .i64) (kI .i64) x0.fSched.fShare), .mapo (encM (kI .i64) (kI .i64) x0.fSched.fLeft)]⟩ (AWp.reg Try.tyOk hΓ (keep := []) (dead := [0, 1]) (by kernel_rfl) rfl (by simp)) ?_
  obtain rfl := some_inj hr
  refine fin_norm ?_
  simp

@[simp] noncomputable def gEgressOutGrant.S : Sp
  | [.ptr i0 0, .lit (.int .i64 x1)], M => match M[i0]? with
    | some (.blk c0) => (match nthE c0 5 with
    | some (.mp i1) => (match M[i1]? with
    | some (.own c1 none) => (match nthE c0 6 with
    | some (.ptr i2 0) => (match M[i2]? with
    | some (.blk c2) => (match nthE c2 1 with
    | some (.mp i3) => (match M[i3]? with
    | some (.mapo c3) => (match nthE c2 2 with
    | some (.mp i4) => (match M[i4]? with
    | some (.mapo c4) => (fun (y0 : EgressOut) => (fun (r : EgressOut) => some { av := .tup [], M := some (((((M.set i0 (.blk [.lit (.int .i64 (r.fConfig.fFrames)), .lit (.int .i64 (r.fConfig.fBytes)), .lit (.int .i64 (r.fConfig.fAge)), .lit (.int .i64 (r.fConfig.fMost)), .lit (.int .i64 (r.fConfig.fGuard)), .mp i1, .ptr i2 0, .lit (.int .i64 (r.fCredit)), .lit (.int .i64 (r.fSounds))])).set i1 (.own (EgressFlow.own .i64 (r.fFlows) none) none)).set i2 (.blk [.lit (.int .i64 (r.fSched.fMost)), .mp i3, .mp i4, .lit (.int .i64 (r.fSched.fAt)), .lit (.bool (r.fSched.fGranted))])).set i3 (.mapo (encM (kI .i64) (kI .i64) (r.fSched.fShare)))).set i4 (.mapo (encM (kI .i64) (kI .i64) (r.fSched.fLeft)))), obl := c0 = EgressOut.enc y0 i1 i2 ∧ c1 = EgressFlow.own .i64 (y0.fFlows) none ∧ c2 = DrrSched.enc (y0.fSched) i3 i4 ∧ c3 = encM (kI .i64) (kI .i64) (y0.fSched.fShare) ∧ c4 = encM (kI .i64) (kI .i64) (y0.fSched.fLeft) ∧ (gEgressOutGrant y0 x1).isSome = true ∧ i0 ≠ i1 ∧ i0 ≠ i2 ∧ i0 ≠ i3 ∧ i0 ≠ i4 ∧ i1 ≠ i2 ∧ i1 ≠ i3 ∧ i1 ≠ i4 ∧ i2 ≠ i3 ∧ i2 ≠ i4 ∧ i3 ≠ i4 }) ((gEgressOutGrant y0 x1).getD dflt)) (EgressOut.dec c0 (decM dkI EgressFlow.dfl c1.data) (DrrSched.dec c2 (decM dkI dkI c3) (decM dkI dkI c4)))
    | _ => none)
    | _ => none)
    | _ => none)
    | _ => none)
    | _ => none)
    | _ => none)
    | _ => none)
    | _ => none)
    | _ => none
  | _, _ => none

set_option maxHeartbeats 1000000 in
theorem gEgressOutGrant.ok : SpecOk Try.prog 23 gEgressOutGrant.S := by
  intro l M out h
  unfold gEgressOutGrant.S at h
  split at h
  · rename_i i0 x1
    split at h
    case h_2 => cases h
    rename_i c0 hM0
    split at h
    case h_2 => cases h
    rename_i i1 he1
    split at h
    case h_2 => cases h
    rename_i c1 hM1
    split at h
    case h_2 => cases h
    rename_i i2 he2
    split at h
    case h_2 => cases h
    rename_i c2 hM2
    split at h
    case h_2 => cases h
    rename_i i3 he3
    split at h
    case h_2 => cases h
    rename_i c3 hM3
    split at h
    case h_2 => cases h
    rename_i i4 he4
    split at h
    case h_2 => cases h
    rename_i c4 hM4
    try dsimp only at h
    cases h
    refine callOk_of fun ho => ?_
    obtain ⟨oc0, oc1, oc2, oc3, oc4, hs, hne0, hne1, hne2, hne3, hne4, hne5, hne6, hne7, hne8, hne9⟩ := ho
    generalize (EgressOut.dec c0 (decM dkI EgressFlow.dfl c1.data) (DrrSched.dec c2 (decM dkI dkI c3) (decM dkI dkI c4))) = y0 at *
    subst oc0
    subst oc1
    subst oc2
    subst oc3
    subst oc4
    obtain ⟨r, hr⟩ := Option.isSome_iff_exists.1 hs
    simp only [hr, Option.getD_some]
    have q := call_frame (M := M) [i0, i1, i2, i3, i4] (gEgressOutGrant.can y0 x1 r hr) (by simp [hne0, hne1, hne2, hne3, hne4, hne5, hne6, hne7, hne8, hne9]) rfl (by intro k i hk; (cases k with | zero => (simp at hk; subst hk; simp [hM0, into]) | succ k => ((cases k with | zero => (simp at hk; subst hk; simp [hM1]) | succ k => ((cases k with | zero => (simp at hk; subst hk; simp [hM2, into]) | succ k => ((cases k with | zero => (simp at hk; subst hk; simp [hM3]) | succ k => ((cases k with | zero => (simp at hk; subst hk; simp [hM4]) | succ k => (simp at hk)))))))))))
    exact callOk_conv q trivial (by simp [into]) (by simp [frameOut, gEgressOutGrant.out, into]) (by simp [frameOut, gEgressOutGrant.out, into])
  · cases h

@[simp] def gEgressOutCredit.out (_x0 : EgressOut) (r : Int) : Out := { av := .lit (.int .i64 r), M := none }
set_option maxHeartbeats 4000000 in
set_option maxRecDepth 100000 in
theorem gEgressOutCredit.can (x0 : EgressOut) (r : Int) (hr : gEgressOutCredit x0 = some r) : CallOk Try.prog 16 [.ptr 0 0] [.blk (x0.fConfig.enc ++ [.mp 1, .ptr 2 0, .lit (.int .i64 x0.fCredit), .lit (.int .i64 x0.fSounds)]), .own (EgressFlow.own .i64 x0.fFlows none) none, .blk [.lit (.int .i64 x0.fSched.fMost), .mp 3, .mp 4, .lit (.int .i64 x0.fSched.fAt), .lit (.bool x0.fSched.fGranted)], .mapo (encM (kI .i64) (kI .i64) x0.fSched.fShare), .mapo (encM (kI .i64) (kI .i64) x0.fSched.fLeft)] (gEgressOutCredit.out x0 r) := by
  unfold gEgressOutCredit at hr
  have hΓ := gamL_nil (P := Try.prog)
  refine call_of_awp Try.tyOk Try.func16 rfl (by kernel_rfl) rfl rfl (by simp) ?_
  intro _ _ _
  refine AWp.then ⟨[⟨0, none, .ptr 0 0⟩], [.blk (x0.fConfig.enc ++ [.mp 1, .ptr 2 0, .lit (.int .i64 x0.fCredit), .lit (.int .i64 x0.fSounds)]), .own (EgressFlow.own .i64 x0.fFlows none) none, .blk [.lit (.int .i64 x0.fSched.fMost), .mp 3, .mp 4, .lit (.int .i64 x0.fSched.fAt), .lit (.bool x0.fSched.fGranted)], .mapo (encM (kI .i64) (kI .i64) x0.fSched.fShare), .mapo (encM (kI .i64) (kI .i64) x0.fSched.fLeft)]⟩ (AWp.reg Try.tyOk hΓ (keep := []) (dead := []) (by kernel_rfl) rfl (by simp)) ?_
  refine AWp.then ⟨[⟨2, none, .lit (.int .i64 x0.fCredit)⟩], [.blk (x0.fConfig.enc ++ [.mp 1, .ptr 2 0, .lit (.int .i64 x0.fCredit), .lit (.int .i64 x0.fSounds)]), .own (EgressFlow.own .i64 x0.fFlows none) none, .blk [.lit (.int .i64 x0.fSched.fMost), .mp 3, .mp 4, .lit (.int .i64 x0.fSched.fAt), .lit (.bool x0.fSched.fGranted)], .mapo (encM (kI .i64) (kI .i64) x0.fSched.fShare), .mapo (encM (kI .i64) (kI .i64) x0.fSched.fLeft)]⟩ (AWp.reg Try.tyOk hΓ (keep := [2]) (dead := [0]) (by kernel_rfl) rfl (by simp)) ?_
  refine AWp.ret ?_
  obtain rfl := some_inj hr
  refine fin_ret ?_
  simp

@[simp] noncomputable def gEgressOutCredit.S : Sp
  | [.ptr i0 0], M => match M[i0]? with
    | some (.blk c0) => (match nthE c0 5 with
    | some (.mp i1) => (match M[i1]? with
    | some (.own c1 none) => (match nthE c0 6 with
    | some (.ptr i2 0) => (match M[i2]? with
    | some (.blk c2) => (match nthE c2 1 with
    | some (.mp i3) => (match M[i3]? with
    | some (.mapo c3) => (match nthE c2 2 with
    | some (.mp i4) => (match M[i4]? with
    | some (.mapo c4) => (fun (y0 : EgressOut) => some { av := .lit (.int .i64 ((gEgressOutCredit y0).getD dflt)), M := none, obl := c0 = EgressOut.enc y0 i1 i2 ∧ c1 = EgressFlow.own .i64 (y0.fFlows) none ∧ c2 = DrrSched.enc (y0.fSched) i3 i4 ∧ c3 = encM (kI .i64) (kI .i64) (y0.fSched.fShare) ∧ c4 = encM (kI .i64) (kI .i64) (y0.fSched.fLeft) ∧ (gEgressOutCredit y0).isSome = true ∧ i0 ≠ i1 ∧ i0 ≠ i2 ∧ i0 ≠ i3 ∧ i0 ≠ i4 ∧ i1 ≠ i2 ∧ i1 ≠ i3 ∧ i1 ≠ i4 ∧ i2 ≠ i3 ∧ i2 ≠ i4 ∧ i3 ≠ i4 }) (EgressOut.dec c0 (decM dkI EgressFlow.dfl c1.data) (DrrSched.dec c2 (decM dkI dkI c3) (decM dkI dkI c4)))
    | _ => none)
    | _ => none)
    | _ => none)
    | _ => none)
    | _ => none)
    | _ => none)
    | _ => none)
    | _ => none)
    | _ => none
  | _, _ => none

set_option maxHeartbeats 1000000 in
theorem gEgressOutCredit.ok : SpecOk Try.prog 16 gEgressOutCredit.S := by
  intro l M out h
  unfold gEgressOutCredit.S at h
  split at h
  · rename_i i0
    split at h
    case h_2 => cases h
    rename_i c0 hM0
    split at h
    case h_2 => cases h
    rename_i i1 he1
    split at h
    case h_2 => cases h
    rename_i c1 hM1
    split at h
    case h_2 => cases h
    rename_i i2 he2
    split at h
    case h_2 => cases h
    rename_i c2 hM2
    split at h
    case h_2 => cases h
    rename_i i3 he3
    split at h
    case h_2 => cases h
    rename_i c3 hM3
    split at h
    case h_2 => cases h
    rename_i i4 he4
    split at h
    case h_2 => cases h
    rename_i c4 hM4
    try dsimp only at h
    cases h
    refine callOk_of fun ho => ?_
    obtain ⟨oc0, oc1, oc2, oc3, oc4, hs, hne0, hne1, hne2, hne3, hne4, hne5, hne6, hne7, hne8, hne9⟩ := ho
    generalize (EgressOut.dec c0 (decM dkI EgressFlow.dfl c1.data) (DrrSched.dec c2 (decM dkI dkI c3) (decM dkI dkI c4))) = y0 at *
    subst oc0
    subst oc1
    subst oc2
    subst oc3
    subst oc4
    obtain ⟨r, hr⟩ := Option.isSome_iff_exists.1 hs
    simp only [hr, Option.getD_some]
    have q := call_frame (M := M) [i0, i1, i2, i3, i4] (gEgressOutCredit.can y0 r hr) (by simp [hne0, hne1, hne2, hne3, hne4, hne5, hne6, hne7, hne8, hne9]) rfl (by intro k i hk; (cases k with | zero => (simp at hk; subst hk; simp [hM0, into]) | succ k => ((cases k with | zero => (simp at hk; subst hk; simp [hM1]) | succ k => ((cases k with | zero => (simp at hk; subst hk; simp [hM2, into]) | succ k => ((cases k with | zero => (simp at hk; subst hk; simp [hM3]) | succ k => ((cases k with | zero => (simp at hk; subst hk; simp [hM4]) | succ k => (simp at hk)))))))))))
    exact callOk_conv q trivial (by simp [into]) (by simp [frameOut, gEgressOutCredit.out, into]) (by simp only [frameOut, gEgressOutCredit.out, Option.getD_some, Option.getD_none]; simp [into, hM0, hM1, hM2, hM3, hM4, set_same])
  · cases h

end Go.Proofs
