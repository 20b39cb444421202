/- That these functions compute what their plain functions do. No condition. -/
import Derived.Test.YtahmmpmmmkbemaaRfD
import Derived.Test.YtahmmpmmmkbemaaTy
namespace Go.Proofs
open Go.Ab
@[simp] def gRef10Drop.out (_x0 : Antiphonref10Maker) (r : Antiphonref10Maker) : Out := { av := .agg [.lit (.bool r.fVideo), .lit (.int .i64 r.fBytes), .lit (.int .i64 r.fUnits), .lit (.int .i64 r.fWait), .sl (r.fOpen.map Antiphonref10Unit.enc) .no, .lit (.int .i64 r.fWhole), .lit (.int .i64 r.fLost)], M := none }
def gRef10Drop.fin (x0 : Antiphonref10Maker) (r : Antiphonref10Maker) (σ : St) : Prop := finK (gRef10Drop.out x0 r) [] σ.M (resA Try.ty σ.A σ.M Try.f24.results.toList)
set_option maxHeartbeats 4000000 in
set_option maxRecDepth 100000 in
theorem gRef10Drop.can (x0 : Antiphonref10Maker) (r : Antiphonref10Maker) (hr : gRef10Drop x0 = some r) : CallOk Try.prog 24 [.agg [.lit (.bool x0.fVideo), .lit (.int .i64 x0.fBytes), .lit (.int .i64 x0.fUnits), .lit (.int .i64 x0.fWait), .sl (x0.fOpen.map Antiphonref10Unit.enc) .no, .lit (.int .i64 x0.fWhole), .lit (.int .i64 x0.fLost)]] [] (gRef10Drop.out x0 r) := by
  unfold gRef10Drop at hr
  have hΓ := gamL_nil (P := Try.prog)
  refine call_of_awp Try.tyOk Try.func24 rfl (by kernel_rfl) rfl rfl (by simp) ?_
  intro _ _ _
  refine AWp.then ⟨[⟨1, none, .ptr 0 0⟩, ⟨2, none, .ptr 1 0⟩], [.blk [.lit (.bool x0.fVideo), .lit (.int .i64 x0.fBytes), .lit (.int .i64 x0.fUnits), .lit (.int .i64 x0.fWait), .sl (x0.fOpen.map Antiphonref10Unit.enc) .no, .lit (.int .i64 x0.fWhole), .lit (.int .i64 x0.fLost)], .blk [.lit (.bool false), .lit (.int .i64 0), .lit (.int .i64 0), .lit (.int .i64 0), .sl [] .full, .lit (.int .i64 0), .lit (.int .i64 0)]]⟩ (AWp.reg Try.tyOk hΓ (keep := [1, 2]) (dead := [0]) (by kernel_rfl) rfl (by simp)) ?_
  refine AWp.then ⟨[⟨1, none, .ptr 0 0⟩, ⟨2, none, .ptr 1 0⟩], [.blk [.lit (.bool x0.fVideo), .lit (.int .i64 x0.fBytes), .lit (.int .i64 x0.fUnits), .lit (.int .i64 x0.fWait), .sl (x0.fOpen.map Antiphonref10Unit.enc) .no, .lit (.int .i64 x0.fWhole), .lit (.int .i64 (addI .i64 x0.fLost (lenL x0.fOpen)))], .blk [.lit (.bool false), .lit (.int .i64 0), .lit (.int .i64 0), .lit (.int .i64 0), .sl [] .full, .lit (.int .i64 0), .lit (.int .i64 0)]]⟩ (AWp.reg Try.tyOk hΓ (keep := []) (dead := []) (by kernel_rfl) rfl (by simp)) ?_
  refine AWp.then ⟨[⟨1, none, .ptr 0 0⟩, ⟨2, none, .ptr 1 0⟩], [.blk [.lit (.bool x0.fVideo), .lit (.int .i64 x0.fBytes), .lit (.int .i64 x0.fUnits), .lit (.int .i64 x0.fWait), .sl [] .full, .lit (.int .i64 x0.fWhole), .lit (.int .i64 (addI .i64 x0.fLost (lenL x0.fOpen)))], .blk [.lit (.bool false), .lit (.int .i64 0), .lit (.int .i64 0), .lit (.int .i64 0), .sl [] .full, .lit (.int .i64 0), .lit (.int .i64 0)]]⟩ (AWp.reg Try.tyOk hΓ (keep := []) (dead := []) (by kernel_rfl) rfl (by simp)) ?_
  refine AWp.then ⟨[⟨2, none, .ptr 1 0⟩], [.blk [.lit (.bool x0.fVideo), .lit (.int .i64 x0.fBytes), .lit (.int .i64 x0.fUnits), .lit (.int .i64 x0.fWait), .sl [] .full, .lit (.int .i64 x0.fWhole), .lit (.int .i64 (addI .i64 x0.fLost (lenL x0.fOpen)))], .blk [.lit (.bool x0.fVideo), .lit (.int .i64 x0.fBytes), .lit (.int .i64 x0.fUnits), .lit (.int .i64 x0.fWait), .sl [] .full, .lit (.int .i64 x0.fWhole), .lit (.int .i64 (addI .i64 x0.fLost (lenL x0.fOpen)))]]⟩ (AWp.reg Try.tyOk hΓ (keep := []) (dead := [1]) (by kernel_rfl) rfl (by simp)) ?_
  refine AWp.ret ?_
  obtain rfl := some_inj hr
  refine fin_ret ?_
  simp

@[simp] noncomputable def gRef10Drop.S : Sp
  | [.agg e0], _ => some { av := .agg [.lit (.bool (((gRef10Drop (Antiphonref10Maker.dec e0)).getD dflt).fVideo)), .lit (.int .i64 (((gRef10Drop (Antiphonref10Maker.dec e0)).getD dflt).fBytes)), .lit (.int .i64 (((gRef10Drop (Antiphonref10Maker.dec e0)).getD dflt).fUnits)), .lit (.int .i64 (((gRef10Drop (Antiphonref10Maker.dec e0)).getD dflt).fWait)), .sl ((((gRef10Drop (Antiphonref10Maker.dec e0)).getD dflt).fOpen).map Antiphonref10Unit.enc) .no, .lit (.int .i64 (((gRef10Drop (Antiphonref10Maker.dec e0)).getD dflt).fWhole)), .lit (.int .i64 (((gRef10Drop (Antiphonref10Maker.dec e0)).getD dflt).fLost))], M := none, obl := WeakL e0 (Antiphonref10Maker.enc (Antiphonref10Maker.dec e0)) ∧ (gRef10Drop (Antiphonref10Maker.dec e0)).isSome = true }
  | _, _ => none

set_option maxHeartbeats 1000000 in
theorem gRef10Drop.ok : SpecOk Try.prog 24 gRef10Drop.S := by
  intro l M out h
  unfold gRef10Drop.S at h
  split at h
  · rename_i e0
    cases h
    refine callOk_of fun ho => ?_
    obtain ⟨ox0, hs⟩ := ho
    generalize (Antiphonref10Maker.dec e0) = x0 at *
    obtain ⟨r, hr⟩ := Option.isSome_iff_exists.1 hs
    simp only [hr, Option.getD_some]
    have q := call_frame (M := M) [] (gRef10Drop.can x0 r hr) (by simp) rfl (by intro k i hk; simp at hk)
    exact callOk_conv q trivial (by simp; exact ox0) (by simp [frameOut, gRef10Drop.out]) (by simp [frameOut, gRef10Drop.out])
  · cases h

@[simp] def gRef10Size.out (_x0 : List Antiphonref10Unit) (r : Int) : Out := { av := .lit (.int .i64 r), M := none }
def gRef10Size.fin (x0 : List Antiphonref10Unit) (r : Int) (σ : St) : Prop := finK (gRef10Size.out x0 r) [] σ.M (resA Try.ty σ.A σ.M Try.f17.results.toList)
set_option maxHeartbeats 4000000 in
set_option maxRecDepth 100000 in
theorem gRef10Size.can (x0 : List Antiphonref10Unit) (r : Int) (hr : gRef10Size x0 = some r) : CallOk Try.prog 17 [.sl (x0.map Antiphonref10Unit.enc) .no] [] (gRef10Size.out x0 r) := by
  unfold gRef10Size at hr
  have hΓ := gamL_nil (P := Try.prog)
  refine call_of_awp Try.tyOk Try.func17 rfl (by kernel_rfl) rfl rfl (by simp) ?_
  intro _ _ _
  refine AWp.then ⟨[⟨0, none, .sl (x0.map Antiphonref10Unit.enc) .no⟩], []⟩ (AWp.reg Try.tyOk hΓ (keep := []) (dead := []) (by kernel_rfl) rfl (by simp)) ?_
  refine AWp.then ⟨[⟨3, none, .lit (.int .i64 0)⟩, ⟨0, none, .sl (x0.map Antiphonref10Unit.enc) .no⟩], []⟩ (AWp.reg Try.tyOk hΓ (keep := [3]) (dead := []) (by kernel_rfl) rfl (by simp)) ?_
  refine AWp.seq ?_
  refine AWp.then ⟨[⟨6, none, .sl (x0.map Antiphonref10Unit.enc) .no⟩, ⟨7, none, .lit (.int .i64 (lenL x0))⟩, ⟨8, none, .lit (.int .i64 0)⟩, ⟨3, none, .lit (.int .i64 0)⟩], []⟩ (AWp.reg Try.tyOk hΓ (keep := [6, 7, 8]) (dead := [0]) (by kernel_rfl) rfl (by simp)) ?_
  refine AWp.loopE (fun (s1 : Int × Int) (γ1 : Unit) => ⟨[⟨6, none, .sl (x0.map Antiphonref10Unit.enc) .no⟩, ⟨7, none, .lit (.int .i64 (lenL x0))⟩, ⟨8, none, .lit (.int .i64 s1.1)⟩, ⟨3, none, .lit (.int .i64 s1.2)⟩], []⟩) (fun (v1 : Int) (γ1a : Unit) => ⟨[⟨3, none, .lit (.int .i64 v1)⟩], []⟩) (gRef10Size.fin x0) hr () 0 (by simp) (fun s1 f γ1 hr => ?_) (fun v1 γ1a σ1 m1 hr hc => ?_) (fun _ h => h)
  · unfold gRef10Size.loop1 at hr
    refine AWp.then ⟨[⟨9, none, .lit (.bool (ltI s1.1 (lenL x0)))⟩, ⟨6, none, .sl (x0.map Antiphonref10Unit.enc) .no⟩, ⟨7, none, .lit (.int .i64 (lenL x0))⟩, ⟨8, none, .lit (.int .i64 s1.1)⟩, ⟨3, none, .lit (.int .i64 s1.2)⟩], []⟩ (AWp.reg Try.tyOk hΓ (keep := [9]) (dead := []) (by kernel_rfl) rfl (by simp)) ?_
    refine AWp.seq ?_
    refine AWp.cond (b := (ltI s1.1 (lenL x0))) (by simp) (fun h3 => ?_) (fun h3 => ?_)
    · have hr := cond_t h3 hr
      refine AWp.skip ?_
      refine AWp.seq ?_
      refine AWp.block ?_
      obtain ⟨h4, hr⟩ := need_some hr
      refine AWp.then ⟨[⟨5, none, .ptr 0 0⟩, ⟨6, none, .sl (x0.map Antiphonref10Unit.enc) .no⟩, ⟨7, none, .lit (.int .i64 (lenL x0))⟩, ⟨8, none, .lit (.int .i64 s1.1)⟩, ⟨3, none, .lit (.int .i64 s1.2)⟩], [.blk [.lit (.int .i64 ((nthI x0 s1.1).fAt)), .lit (.int .i64 ((nthI x0 s1.1).fTime)), .lit (.bool ((nthI x0 s1.1).fMarker)), .lit (.bool ((nthI x0 s1.1).fStart)), .lit (.bool ((nthI x0 s1.1).fKey)), .lit (.string ((nthI x0 s1.1).fText)), .lit (.int .i64 ((nthI x0 s1.1).fTick))]]⟩ (AWp.reg Try.tyOk hΓ (keep := [5]) (dead := [9]) (by kernel_rfl) rfl (by simp [h3, h4])) ?_
      refine AWp.last ⟨[⟨3, none, .lit (.int .i64 (addI .i64 s1.2 (lenS ((nthI x0 s1.1).fText))))⟩, ⟨6, none, .sl (x0.map Antiphonref10Unit.enc) .no⟩, ⟨7, none, .lit (.int .i64 (lenL x0))⟩, ⟨8, none, .lit (.int .i64 s1.1)⟩], [.blk [.lit (.int .i64 ((nthI x0 s1.1).fAt)), .lit (.int .i64 ((nthI x0 s1.1).fTime)), .lit (.bool ((nthI x0 s1.1).fMarker)), .lit (.bool ((nthI x0 s1.1).fStart)), .lit (.bool ((nthI x0 s1.1).fKey)), .lit (.string ((nthI x0 s1.1).fText)), .lit (.int .i64 ((nthI x0 s1.1).fTick))]]⟩ (AWp.reg Try.tyOk hΓ (keep := [3]) (dead := [5]) (by kernel_rfl) rfl (by simp)) ?_
      refine AWp.last ⟨[⟨8, none, .lit (.int .i64 (addI .i64 s1.1 1))⟩, ⟨3, none, .lit (.int .i64 (addI .i64 s1.2 (lenS ((nthI x0 s1.1).fText))))⟩, ⟨6, none, .sl (x0.map Antiphonref10Unit.enc) .no⟩, ⟨7, none, .lit (.int .i64 (lenL x0))⟩], [.blk [.lit (.int .i64 ((nthI x0 s1.1).fAt)), .lit (.int .i64 ((nthI x0 s1.1).fTime)), .lit (.bool ((nthI x0 s1.1).fMarker)), .lit (.bool ((nthI x0 s1.1).fStart)), .lit (.bool ((nthI x0 s1.1).fKey)), .lit (.string ((nthI x0 s1.1).fText)), .lit (.int .i64 ((nthI x0 s1.1).fTick))]]⟩ (AWp.reg Try.tyOk hΓ (keep := [8]) (dead := []) (by kernel_rfl) rfl (by simp)) ?_
      obtain rfl := some_inj hr
      exact round_go () 0 (by simp)
    · have hr := cond_f h3 hr
      refine AWp.exit ?_
      obtain rfl := some_inj hr
      exact round_out () 0 (by simp)
  · refine AWp.conv hc ?_
    refine AWp.then ⟨[⟨2, none, .lit (.int .i64 v1)⟩], []⟩ (AWp.reg Try.tyOk hΓ (keep := [2]) (dead := [3]) (by kernel_rfl) rfl (by simp)) ?_
    refine AWp.ret ?_
    obtain rfl := some_inj hr
    refine fin_ret ?_
    simp

@[simp] noncomputable def gRef10Size.S : Sp
  | [.sl e0 _], _ => some { av := .lit (.int .i64 ((gRef10Size (e0.map Antiphonref10Unit.dec)).getD dflt)), M := none, obl := e0 = (e0.map Antiphonref10Unit.dec).map Antiphonref10Unit.enc ∧ (gRef10Size (e0.map Antiphonref10Unit.dec)).isSome = true }
  | _, _ => none

set_option maxHeartbeats 1000000 in
theorem gRef10Size.ok : SpecOk Try.prog 17 gRef10Size.S := by
  intro l M out h
  unfold gRef10Size.S at h
  split at h
  · rename_i e0 k0
    cases h
    refine callOk_of fun ho => ?_
    obtain ⟨ox0, hs⟩ := ho
    generalize (e0.map Antiphonref10Unit.dec) = x0 at *
    subst ox0
    obtain ⟨r, hr⟩ := Option.isSome_iff_exists.1 hs
    simp only [hr, Option.getD_some]
    have q := call_frame (M := M) [] (gRef10Size.can x0 r hr) (by simp) rfl (by intro k i hk; simp at hk)
    exact callOk_conv q trivial (by simp) (by simp [frameOut, gRef10Size.out]) (by simp [frameOut, gRef10Size.out])
  · cases h

@[simp] def gRef10Put.out (_x0 : Antiphonref10Maker) (_x1 : Antiphonref10Unit) (r : Antiphonref10Maker × List Antiphonref10Unit) : Out := { av := .tup [.agg [.lit (.bool r.1.fVideo), .lit (.int .i64 r.1.fBytes), .lit (.int .i64 r.1.fUnits), .lit (.int .i64 r.1.fWait), .sl (r.1.fOpen.map Antiphonref10Unit.enc) .no, .lit (.int .i64 r.1.fWhole), .lit (.int .i64 r.1.fLost)], .sl (r.2.map Antiphonref10Unit.enc) .no], M := none }
def gRef10Put.fin (x0 : Antiphonref10Maker) (x1 : Antiphonref10Unit) (r : Antiphonref10Maker × List Antiphonref10Unit) (σ : St) : Prop := finK (gRef10Put.out x0 x1 r) [] σ.M (resA Try.ty σ.A σ.M Try.f15.results.toList)
set_option maxHeartbeats 4000000 in
set_option maxRecDepth 100000 in
theorem gRef10Put.can (x0 : Antiphonref10Maker) (x1 : Antiphonref10Unit) (r : Antiphonref10Maker × List Antiphonref10Unit) (hr : gRef10Put x0 x1 = some r) : CallOk Try.prog 15 [.agg [.lit (.bool x0.fVideo), .lit (.int .i64 x0.fBytes), .lit (.int .i64 x0.fUnits), .lit (.int .i64 x0.fWait), .sl (x0.fOpen.map Antiphonref10Unit.enc) .no, .lit (.int .i64 x0.fWhole), .lit (.int .i64 x0.fLost)], .agg [.lit (.int .i64 x1.fAt), .lit (.int .i64 x1.fTime), .lit (.bool x1.fMarker), .lit (.bool x1.fStart), .lit (.bool x1.fKey), .lit (.string x1.fText), .lit (.int .i64 x1.fTick)]] [] (gRef10Put.out x0 x1 r) := by
  unfold gRef10Put at hr
  have hΓ := (gamL_cons gRef10Size.ok (gamL_cons gRef10Drop.ok (gamL_nil)) : GamOk Try.prog _)
  refine call_of_awp Try.tyOk Try.func15 rfl (by kernel_rfl) rfl rfl (by simp) ?_
  intro _ _ _
  refine AWp.then ⟨[⟨2, none, .ptr 0 0⟩, ⟨3, none, .ptr 1 0⟩, ⟨4, none, .ptr 2 0⟩], [.blk [.lit (.bool x0.fVideo), .lit (.int .i64 x0.fBytes), .lit (.int .i64 x0.fUnits), .lit (.int .i64 x0.fWait), .sl (x0.fOpen.map Antiphonref10Unit.enc) .no, .lit (.int .i64 x0.fWhole), .lit (.int .i64 x0.fLost)], .blk [.lit (.int .i64 x1.fAt), .lit (.int .i64 x1.fTime), .lit (.bool x1.fMarker), .lit (.bool x1.fStart), .lit (.bool x1.fKey), .lit (.string x1.fText), .lit (.int .i64 x1.fTick)], .blk [.lit (.bool false), .lit (.int .i64 0), .lit (.int .i64 0), .lit (.int .i64 0), .sl [] .full, .lit (.int .i64 0), .lit (.int .i64 0)]]⟩ (AWp.reg Try.tyOk hΓ (keep := [2, 3, 4]) (dead := [0, 1]) (by kernel_rfl) rfl (by simp)) ?_
  refine AWp.then ⟨[⟨6, none, .lit (.bool false)⟩, ⟨2, none, .ptr 0 0⟩, ⟨3, none, .ptr 1 0⟩, ⟨4, none, .ptr 2 0⟩], [.blk [.lit (.bool x0.fVideo), .lit (.int .i64 x0.fBytes), .lit (.int .i64 x0.fUnits), .lit (.int .i64 x0.fWait), .sl (x0.fOpen.map Antiphonref10Unit.enc) .no, .lit (.int .i64 x0.fWhole), .lit (.int .i64 x0.fLost)], .blk [.lit (.int .i64 x1.fAt), .lit (.int .i64 x1.fTime), .lit (.bool x1.fMarker), .lit (.bool x1.fStart), .lit (.bool x1.fKey), .lit (.string x1.fText), .lit (.int .i64 x1.fTick)], .blk [.lit (.bool false), .lit (.int .i64 0), .lit (.int .i64 0), .lit (.int .i64 0), .sl [] .full, .lit (.int .i64 0), .lit (.int .i64 0)]]⟩ (AWp.reg Try.tyOk hΓ (keep := [6]) (dead := []) (by kernel_rfl) rfl (by simp)) ?_
  refine AWp.meetF (fun (v1 : Bool) (γ1 : Unit) => ⟨[⟨6, none, .lit (.bool v1)⟩, ⟨2, none, .ptr 0 0⟩, ⟨3, none, .ptr 1 0⟩, ⟨4, none, .ptr 2 0⟩], [.blk [.lit (.bool x0.fVideo), .lit (.int .i64 x0.fBytes), .lit (.int .i64 x0.fUnits), .lit (.int .i64 x0.fWait), .sl (x0.fOpen.map Antiphonref10Unit.enc) .no, .lit (.int .i64 x0.fWhole), .lit (.int .i64 x0.fLost)], .blk [.lit (.int .i64 x1.fAt), .lit (.int .i64 x1.fTime), .lit (.bool x1.fMarker), .lit (.bool x1.fStart), .lit (.bool x1.fKey), .lit (.string x1.fText), .lit (.int .i64 x1.fTick)], .blk [.lit (.bool false), .lit (.int .i64 0), .lit (.int .i64 0), .lit (.int .i64 0), .sl [] .full, .lit (.int .i64 0), .lit (.int .i64 0)]]⟩) (gRef10Put.fin x0 x1) hr (fun f hr => ?_) (fun v1 γ1 hr => ?_) (fun _ h => h)
  · refine AWp.then ⟨[⟨12, none, .lit (.bool (ltI 0 (lenL x0.fOpen)))⟩, ⟨6, none, .lit (.bool false)⟩, ⟨2, none, .ptr 0 0⟩, ⟨3, none, .ptr 1 0⟩, ⟨4, none, .ptr 2 0⟩], [.blk [.lit (.bool x0.fVideo), .lit (.int .i64 x0.fBytes), .lit (.int .i64 x0.fUnits), .lit (.int .i64 x0.fWait), .sl (x0.fOpen.map Antiphonref10Unit.enc) .no, .lit (.int .i64 x0.fWhole), .lit (.int .i64 x0.fLost)], .blk [.lit (.int .i64 x1.fAt), .lit (.int .i64 x1.fTime), .lit (.bool x1.fMarker), .lit (.bool x1.fStart), .lit (.bool x1.fKey), .lit (.string x1.fText), .lit (.int .i64 x1.fTick)], .blk [.lit (.bool false), .lit (.int .i64 0), .lit (.int .i64 0), .lit (.int .i64 0), .sl [] .full, .lit (.int .i64 0), .lit (.int .i64 0)]]⟩ (AWp.reg Try.tyOk hΓ (keep := [12]) (dead := []) (by kernel_rfl) rfl (by simp)) ?_
    refine AWp.cond (b := (ltI 0 (lenL x0.fOpen))) (by simp) (fun h12 => ?_) (fun h12 => ?_)
    · have hr := cond_t h12 hr
      obtain ⟨h13, hr⟩ := need_some hr
      refine AWp.then ⟨[⟨7, none, .ptr 3 0⟩, ⟨2, none, .ptr 0 0⟩, ⟨3, none, .ptr 1 0⟩, ⟨4, none, .ptr 2 0⟩], [.blk [.lit (.bool x0.fVideo), .lit (.int .i64 x0.fBytes), .lit (.int .i64 x0.fUnits), .lit (.int .i64 x0.fWait), .sl (x0.fOpen.map Antiphonref10Unit.enc) .no, .lit (.int .i64 x0.fWhole), .lit (.int .i64 x0.fLost)], .blk [.lit (.int .i64 x1.fAt), .lit (.int .i64 x1.fTime), .lit (.bool x1.fMarker), .lit (.bool x1.fStart), .lit (.bool x1.fKey), .lit (.string x1.fText), .lit (.int .i64 x1.fTick)], .blk [.lit (.bool false), .lit (.int .i64 0), .lit (.int .i64 0), .lit (.int .i64 0), .sl [] .full, .lit (.int .i64 0), .lit (.int .i64 0)], .blk [.lit (.int .i64 ((nthI x0.fOpen (subI .i64 (lenL x0.fOpen) 1)).fAt)), .lit (.int .i64 ((nthI x0.fOpen (subI .i64 (lenL x0.fOpen) 1)).fTime)), .lit (.bool ((nthI x0.fOpen (subI .i64 (lenL x0.fOpen) 1)).fMarker)), .lit (.bool ((nthI x0.fOpen (subI .i64 (lenL x0.fOpen) 1)).fStart)), .lit (.bool ((nthI x0.fOpen (subI .i64 (lenL x0.fOpen) 1)).fKey)), .lit (.string ((nthI x0.fOpen (subI .i64 (lenL x0.fOpen) 1)).fText)), .lit (.int .i64 ((nthI x0.fOpen (subI .i64 (lenL x0.fOpen) 1)).fTick))]]⟩ (AWp.reg Try.tyOk hΓ (keep := [7]) (dead := [12, 6]) (by kernel_rfl) rfl (by simp [h12, h13])) ?_
      refine AWp.last ⟨[⟨6, none, .lit (.bool (pickB (pickB (eqI x1.fAt (addI .i64 ((nthI x0.fOpen (subI .i64 (lenL x0.fOpen) 1)).fAt) 1)) (eqI x1.fTime ((nthI x0.fOpen (subI .i64 (lenL x0.fOpen) 1)).fTime)) false) (notB x1.fStart) false))⟩, ⟨2, none, .ptr 0 0⟩, ⟨3, none, .ptr 1 0⟩, ⟨4, none, .ptr 2 0⟩], [.blk [.lit (.bool x0.fVideo), .lit (.int .i64 x0.fBytes), .lit (.int .i64 x0.fUnits), .lit (.int .i64 x0.fWait), .sl (x0.fOpen.map Antiphonref10Unit.enc) .no, .lit (.int .i64 x0.fWhole), .lit (.int .i64 x0.fLost)], .blk [.lit (.int .i64 x1.fAt), .lit (.int .i64 x1.fTime), .lit (.bool x1.fMarker), .lit (.bool x1.fStart), .lit (.bool x1.fKey), .lit (.string x1.fText), .lit (.int .i64 x1.fTick)], .blk [.lit (.bool false), .lit (.int .i64 0), .lit (.int .i64 0), .lit (.int .i64 0), .sl [] .full, .lit (.int .i64 0), .lit (.int .i64 0)], .blk [.lit (.int .i64 ((nthI x0.fOpen (subI .i64 (lenL x0.fOpen) 1)).fAt)), .lit (.int .i64 ((nthI x0.fOpen (subI .i64 (lenL x0.fOpen) 1)).fTime)), .lit (.bool ((nthI x0.fOpen (subI .i64 (lenL x0.fOpen) 1)).fMarker)), .lit (.bool ((nthI x0.fOpen (subI .i64 (lenL x0.fOpen) 1)).fStart)), .lit (.bool ((nthI x0.fOpen (subI .i64 (lenL x0.fOpen) 1)).fKey)), .lit (.string ((nthI x0.fOpen (subI .i64 (lenL x0.fOpen) 1)).fText)), .lit (.int .i64 ((nthI x0.fOpen (subI .i64 (lenL x0.fOpen) 1)).fTick))]]⟩ (AWp.reg Try.tyOk hΓ (keep := [6]) (dead := [7]) (by kernel_rfl) rfl (by simp)) ?_
      obtain rfl := some_inj hr
      exact meet_go () 3 (by simp)
    · have hr := cond_f h12 hr
      refine AWp.skip ?_
      obtain rfl := some_inj hr
      exact meet_go () 3 (by simp)
  · refine AWp.meetF (fun (v2 : Antiphonref10Maker) (γ2 : Unit) => ⟨[⟨6, none, .lit (.bool v1)⟩, ⟨2, none, .ptr 0 0⟩, ⟨3, none, .ptr 1 0⟩, ⟨4, none, .ptr 2 0⟩], [.blk [.lit (.bool v2.fVideo), .lit (.int .i64 v2.fBytes), .lit (.int .i64 v2.fUnits), .lit (.int .i64 v2.fWait), .sl (v2.fOpen.map Antiphonref10Unit.enc) .no, .lit (.int .i64 v2.fWhole), .lit (.int .i64 v2.fLost)], .blk [.lit (.int .i64 x1.fAt), .lit (.int .i64 x1.fTime), .lit (.bool x1.fMarker), .lit (.bool x1.fStart), .lit (.bool x1.fKey), .lit (.string x1.fText), .lit (.int .i64 x1.fTick)], .blk [.lit (.bool false), .lit (.int .i64 0), .lit (.int .i64 0), .lit (.int .i64 0), .sl [] .full, .lit (.int .i64 0), .lit (.int .i64 0)]]⟩) (gRef10Put.fin x0 x1) hr (fun f hr => ?_) (fun v2 γ2 hr => ?_) (fun _ h => h)
    · refine AWp.then ⟨[⟨40, none, .lit (.bool (notB v1))⟩, ⟨6, none, .lit (.bool v1)⟩, ⟨2, none, .ptr 0 0⟩, ⟨3, none, .ptr 1 0⟩, ⟨4, none, .ptr 2 0⟩], [.blk [.lit (.bool x0.fVideo), .lit (.int .i64 x0.fBytes), .lit (.int .i64 x0.fUnits), .lit (.int .i64 x0.fWait), .sl (x0.fOpen.map Antiphonref10Unit.enc) .no, .lit (.int .i64 x0.fWhole), .lit (.int .i64 x0.fLost)], .blk [.lit (.int .i64 x1.fAt), .lit (.int .i64 x1.fTime), .lit (.bool x1.fMarker), .lit (.bool x1.fStart), .lit (.bool x1.fKey), .lit (.string x1.fText), .lit (.int .i64 x1.fTick)], .blk [.lit (.bool false), .lit (.int .i64 0), .lit (.int .i64 0), .lit (.int .i64 0), .sl [] .full, .lit (.int .i64 0), .lit (.int .i64 0)]]⟩ (AWp.reg Try.tyOk hΓ (keep := [40]) (dead := []) (by kernel_rfl) rfl (by simp)) ?_
      refine AWp.cond (b := (notB v1)) (by simp) (fun h14 => ?_) (fun h14 => ?_)
      · have hr := cond_t h14 hr
        obtain ⟨r1, h15, hr⟩ := bind_some' hr
        refine AWp.last ⟨[⟨6, none, .lit (.bool v1)⟩, ⟨2, none, .ptr 0 0⟩, ⟨3, none, .ptr 1 0⟩, ⟨4, none, .ptr 2 0⟩], [.blk [.lit (.bool r1.fVideo), .lit (.int .i64 r1.fBytes), .lit (.int .i64 r1.fUnits), .lit (.int .i64 r1.fWait), .sl (r1.fOpen.map Antiphonref10Unit.enc) .no, .lit (.int .i64 r1.fWhole), .lit (.int .i64 r1.fLost)], .blk [.lit (.int .i64 x1.fAt), .lit (.int .i64 x1.fTime), .lit (.bool x1.fMarker), .lit (.bool x1.fStart), .lit (.bool x1.fKey), .lit (.string x1.fText), .lit (.int .i64 x1.fTick)], .blk [.lit (.bool false), .lit (.int .i64 0), .lit (.int .i64 0), .lit (.int .i64 0), .sl [] .full, .lit (.int .i64 0), .lit (.int .i64 0)]]⟩ (AWp.reg Try.tyOk hΓ (keep := []) (dead := [40]) (by kernel_rfl) rfl (by simp [h14, h15])) ?_
        obtain rfl := some_inj hr
        exact meet_go () 3 (by simp)
      · have hr := cond_f h14 hr
        refine AWp.skip ?_
        obtain rfl := some_inj hr
        exact meet_go () 3 (by simp)
    · refine AWp.seq ?_
      refine AWp.then ⟨[⟨53, none, .lit (.bool (pickB (pickB (notB v1) v2.fVideo false) (notB x1.fStart) false))⟩, ⟨2, none, .ptr 0 0⟩, ⟨3, none, .ptr 1 0⟩, ⟨4, none, .ptr 2 0⟩], [.blk [.lit (.bool v2.fVideo), .lit (.int .i64 v2.fBytes), .lit (.int .i64 v2.fUnits), .lit (.int .i64 v2.fWait), .sl (v2.fOpen.map Antiphonref10Unit.enc) .no, .lit (.int .i64 v2.fWhole), .lit (.int .i64 v2.fLost)], .blk [.lit (.int .i64 x1.fAt), .lit (.int .i64 x1.fTime), .lit (.bool x1.fMarker), .lit (.bool x1.fStart), .lit (.bool x1.fKey), .lit (.string x1.fText), .lit (.int .i64 x1.fTick)], .blk [.lit (.bool false), .lit (.int .i64 0), .lit (.int .i64 0), .lit (.int .i64 0), .sl [] .full, .lit (.int .i64 0), .lit (.int .i64 0)]]⟩ (AWp.reg Try.tyOk hΓ (keep := [53]) (dead := [6]) (by kernel_rfl) rfl (by simp)) ?_
      refine AWp.cond (b := (pickB (pickB (notB v1) v2.fVideo false) (notB x1.fStart) false)) (by simp) (fun h16 => ?_) (fun h16 => ?_)
      · have hr := cond_t h16 hr
        refine AWp.then ⟨[⟨2, none, .ptr 0 0⟩, ⟨4, none, .ptr 2 0⟩], [.blk [.lit (.bool v2.fVideo), .lit (.int .i64 v2.fBytes), .lit (.int .i64 v2.fUnits), .lit (.int .i64 v2.fWait), .sl (v2.fOpen.map Antiphonref10Unit.enc) .no, .lit (.int .i64 v2.fWhole), .lit (.int .i64 (addI .i64 v2.fLost 1))], .blk [.lit (.int .i64 x1.fAt), .lit (.int .i64 x1.fTime), .lit (.bool x1.fMarker), .lit (.bool x1.fStart), .lit (.bool x1.fKey), .lit (.string x1.fText), .lit (.int .i64 x1.fTick)], .blk [.lit (.bool false), .lit (.int .i64 0), .lit (.int .i64 0), .lit (.int .i64 0), .sl [] .full, .lit (.int .i64 0), .lit (.int .i64 0)]]⟩ (AWp.reg Try.tyOk hΓ (keep := []) (dead := [53, 3]) (by kernel_rfl) rfl (by simp [h16])) ?_
        refine AWp.then ⟨[⟨5, none, .sl [] .full⟩, ⟨4, none, .ptr 2 0⟩], [.blk [.lit (.bool v2.fVideo), .lit (.int .i64 v2.fBytes), .lit (.int .i64 v2.fUnits), .lit (.int .i64 v2.fWait), .sl (v2.fOpen.map Antiphonref10Unit.enc) .no, .lit (.int .i64 v2.fWhole), .lit (.int .i64 (addI .i64 v2.fLost 1))], .blk [.lit (.int .i64 x1.fAt), .lit (.int .i64 x1.fTime), .lit (.bool x1.fMarker), .lit (.bool x1.fStart), .lit (.bool x1.fKey), .lit (.string x1.fText), .lit (.int .i64 x1.fTick)], .blk [.lit (.bool v2.fVideo), .lit (.int .i64 v2.fBytes), .lit (.int .i64 v2.fUnits), .lit (.int .i64 v2.fWait), .sl (v2.fOpen.map Antiphonref10Unit.enc) .no, .lit (.int .i64 v2.fWhole), .lit (.int .i64 (addI .i64 v2.fLost 1))]]⟩ (AWp.reg Try.tyOk hΓ (keep := [5]) (dead := [2]) (by kernel_rfl) rfl (by simp)) ?_
        refine AWp.ret ?_
        obtain rfl := some_inj hr
        refine fin_ret ?_
        simp
      · have hr := cond_f h16 hr
        refine AWp.skip ?_
        obtain ⟨h17, hr⟩ := need_some hr
        obtain ⟨h18, hr⟩ := need_some hr
        refine AWp.then ⟨[⟨2, none, .ptr 0 0⟩, ⟨3, none, .ptr 1 0⟩, ⟨4, none, .ptr 2 0⟩], [.blk [.lit (.bool v2.fVideo), .lit (.int .i64 v2.fBytes), .lit (.int .i64 v2.fUnits), .lit (.int .i64 v2.fWait), .sl ((appL (appL [] v2.fOpen) [x1]).map Antiphonref10Unit.enc) (.own 3 2 7), .lit (.int .i64 v2.fWhole), .lit (.int .i64 v2.fLost)], .blk [.lit (.int .i64 x1.fAt), .lit (.int .i64 x1.fTime), .lit (.bool x1.fMarker), .lit (.bool x1.fStart), .lit (.bool x1.fKey), .lit (.string x1.fText), .lit (.int .i64 x1.fTick)], .blk [.lit (.bool false), .lit (.int .i64 0), .lit (.int .i64 0), .lit (.int .i64 0), .sl [] .full, .lit (.int .i64 0), .lit (.int .i64 0)], .room 2]⟩ (AWp.regD Try.mixed Try.tyOk hΓ (keep := []) (dead := [53]) [(4, 0), (5, 0)] [(false, []), (false, []), (false, []), (true, []), (false, []), (false, []), (true, []), (false, []), (true, [])] (by kernel_rfl) rfl (by simp [h16, h17, h18])) ?_
        refine AWp.seq ?_
        obtain ⟨h19, hr⟩ := need_some hr
        refine AWp.then ⟨[⟨80, none, .lit (.bool (pickB (ltI v2.fUnits ((lenL v2.fOpen) + 1)) true (ltI v2.fBytes ((gRef10Size (appL (appL [] v2.fOpen) [x1])).getD dflt))))⟩, ⟨2, none, .ptr 0 0⟩, ⟨3, none, .ptr 1 0⟩, ⟨4, none, .ptr 2 0⟩], [.blk [.lit (.bool v2.fVideo), .lit (.int .i64 v2.fBytes), .lit (.int .i64 v2.fUnits), .lit (.int .i64 v2.fWait), .sl ((appL (appL [] v2.fOpen) [x1]).map Antiphonref10Unit.enc) (.own 3 2 7), .lit (.int .i64 v2.fWhole), .lit (.int .i64 v2.fLost)], .blk [.lit (.int .i64 x1.fAt), .lit (.int .i64 x1.fTime), .lit (.bool x1.fMarker), .lit (.bool x1.fStart), .lit (.bool x1.fKey), .lit (.string x1.fText), .lit (.int .i64 x1.fTick)], .blk [.lit (.bool false), .lit (.int .i64 0), .lit (.int .i64 0), .lit (.int .i64 0), .sl [] .full, .lit (.int .i64 0), .lit (.int .i64 0)], .room 2]⟩ (AWp.regD Try.mixed Try.tyOk hΓ (keep := [80]) (dead := []) [] [(false, []), (false, []), (false, []), (false, []), (false, []), (false, []), (false, []), (false, [73]), (false, [73]), (false, [73]), (false, [73]), (false, [73]), (false, [73]), (false, [])] (by kernel_rfl) rfl (by simp [h19])) ?_
        refine AWp.cond (b := (pickB (ltI v2.fUnits ((lenL v2.fOpen) + 1)) true (ltI v2.fBytes ((gRef10Size (appL (appL [] v2.fOpen) [x1])).getD dflt)))) (by simp) (fun h20 => ?_) (fun h20 => ?_)
        · have hr := cond_t h20 hr
          obtain ⟨r2, h21, hr⟩ := bind_some' hr
          refine AWp.then ⟨[⟨5, none, .sl [] .full⟩, ⟨4, none, .ptr 2 0⟩], [.blk [.lit (.bool v2.fVideo), .lit (.int .i64 v2.fBytes), .lit (.int .i64 v2.fUnits), .lit (.int .i64 v2.fWait), .sl ((appL (appL [] v2.fOpen) [x1]).map Antiphonref10Unit.enc) (.own 3 2 7), .lit (.int .i64 v2.fWhole), .lit (.int .i64 v2.fLost)], .blk [.lit (.int .i64 x1.fAt), .lit (.int .i64 x1.fTime), .lit (.bool x1.fMarker), .lit (.bool x1.fStart), .lit (.bool x1.fKey), .lit (.string x1.fText), .lit (.int .i64 x1.fTick)], .blk [.lit (.bool r2.fVideo), .lit (.int .i64 r2.fBytes), .lit (.int .i64 r2.fUnits), .lit (.int .i64 r2.fWait), .sl (r2.fOpen.map Antiphonref10Unit.enc) .no, .lit (.int .i64 r2.fWhole), .lit (.int .i64 r2.fLost)], .room 2]⟩ (AWp.reg Try.tyOk hΓ (keep := [5]) (dead := [80, 2, 3]) (by kernel_rfl) rfl (by simp [h20, h21])) ?_
          refine AWp.ret ?_
          obtain rfl := some_inj hr
          refine fin_ret ?_
          simp
        · have hr := cond_f h20 hr
          refine AWp.skip ?_
          refine AWp.seq ?_
          refine AWp.then ⟨[⟨89, none, .lit (.bool (pickB v2.fVideo (notB x1.fMarker) false))⟩, ⟨2, none, .ptr 0 0⟩, ⟨4, none, .ptr 2 0⟩], [.blk [.lit (.bool v2.fVideo), .lit (.int .i64 v2.fBytes), .lit (.int .i64 v2.fUnits), .lit (.int .i64 v2.fWait), .sl ((appL (appL [] v2.fOpen) [x1]).map Antiphonref10Unit.enc) (.own 3 2 7), .lit (.int .i64 v2.fWhole), .lit (.int .i64 v2.fLost)], .blk [.lit (.int .i64 x1.fAt), .lit (.int .i64 x1.fTime), .lit (.bool x1.fMarker), .lit (.bool x1.fStart), .lit (.bool x1.fKey), .lit (.string x1.fText), .lit (.int .i64 x1.fTick)], .blk [.lit (.bool false), .lit (.int .i64 0), .lit (.int .i64 0), .lit (.int .i64 0), .sl [] .full, .lit (.int .i64 0), .lit (.int .i64 0)], .room 2]⟩ (AWp.reg Try.tyOk hΓ (keep := [89]) (dead := [80, 3]) (by kernel_rfl) rfl (by simp [h20])) ?_
          refine AWp.cond (b := (pickB v2.fVideo (notB x1.fMarker) false)) (by simp) (fun h22 => ?_) (fun h22 => ?_)
          · have hr := cond_t h22 hr
            refine AWp.then ⟨[⟨5, none, .sl [] .full⟩, ⟨4, none, .ptr 2 0⟩], [.blk [.lit (.bool v2.fVideo), .lit (.int .i64 v2.fBytes), .lit (.int .i64 v2.fUnits), .lit (.int .i64 v2.fWait), .sl ((appL (appL [] v2.fOpen) [x1]).map Antiphonref10Unit.enc) (.own 3 2 7), .lit (.int .i64 v2.fWhole), .lit (.int .i64 v2.fLost)], .blk [.lit (.int .i64 x1.fAt), .lit (.int .i64 x1.fTime), .lit (.bool x1.fMarker), .lit (.bool x1.fStart), .lit (.bool x1.fKey), .lit (.string x1.fText), .lit (.int .i64 x1.fTick)], .blk [.lit (.bool v2.fVideo), .lit (.int .i64 v2.fBytes), .lit (.int .i64 v2.fUnits), .lit (.int .i64 v2.fWait), .sl ((appL (appL [] v2.fOpen) [x1]).map Antiphonref10Unit.enc) (.own 3 2 7), .lit (.int .i64 v2.fWhole), .lit (.int .i64 v2.fLost)], .room 2]⟩ (AWp.reg Try.tyOk hΓ (keep := [5]) (dead := [89, 2]) (by kernel_rfl) rfl (by simp [h22])) ?_
            refine AWp.ret ?_
            obtain rfl := some_inj hr
            refine fin_ret ?_
            simp
          · have hr := cond_f h22 hr
            refine AWp.skip ?_
            refine AWp.then ⟨[⟨8, none, .sl ((appL (appL [] v2.fOpen) [x1]).map Antiphonref10Unit.enc) (.own 3 2 7)⟩, ⟨2, none, .ptr 0 0⟩, ⟨4, none, .ptr 2 0⟩], [.blk [.lit (.bool v2.fVideo), .lit (.int .i64 v2.fBytes), .lit (.int .i64 v2.fUnits), .lit (.int .i64 v2.fWait), .sl ((appL (appL [] v2.fOpen) [x1]).map Antiphonref10Unit.enc) (.own 3 2 7), .lit (.int .i64 v2.fWhole), .lit (.int .i64 v2.fLost)], .blk [.lit (.int .i64 x1.fAt), .lit (.int .i64 x1.fTime), .lit (.bool x1.fMarker), .lit (.bool x1.fStart), .lit (.bool x1.fKey), .lit (.string x1.fText), .lit (.int .i64 x1.fTick)], .blk [.lit (.bool false), .lit (.int .i64 0), .lit (.int .i64 0), .lit (.int .i64 0), .sl [] .full, .lit (.int .i64 0), .lit (.int .i64 0)], .room 2]⟩ (AWp.reg Try.tyOk hΓ (keep := [8]) (dead := [89]) (by kernel_rfl) rfl (by simp [h22])) ?_
            refine AWp.then ⟨[⟨8, none, .sl ((appL (appL [] v2.fOpen) [x1]).map Antiphonref10Unit.enc) (.own 3 2 7)⟩, ⟨2, none, .ptr 0 0⟩, ⟨4, none, .ptr 2 0⟩], [.blk [.lit (.bool v2.fVideo), .lit (.int .i64 v2.fBytes), .lit (.int .i64 v2.fUnits), .lit (.int .i64 v2.fWait), .sl [] .full, .lit (.int .i64 v2.fWhole), .lit (.int .i64 v2.fLost)], .blk [.lit (.int .i64 x1.fAt), .lit (.int .i64 x1.fTime), .lit (.bool x1.fMarker), .lit (.bool x1.fStart), .lit (.bool x1.fKey), .lit (.string x1.fText), .lit (.int .i64 x1.fTick)], .blk [.lit (.bool false), .lit (.int .i64 0), .lit (.int .i64 0), .lit (.int .i64 0), .sl [] .full, .lit (.int .i64 0), .lit (.int .i64 0)], .room 2]⟩ (AWp.reg Try.tyOk hΓ (keep := []) (dead := []) (by kernel_rfl) rfl (by simp)) ?_
            refine AWp.then ⟨[⟨8, none, .sl ((appL (appL [] v2.fOpen) [x1]).map Antiphonref10Unit.enc) (.own 3 2 7)⟩, ⟨2, none, .ptr 0 0⟩, ⟨4, none, .ptr 2 0⟩], [.blk [.lit (.bool v2.fVideo), .lit (.int .i64 v2.fBytes), .lit (.int .i64 v2.fUnits), .lit (.int .i64 v2.fWait), .sl [] .full, .lit (.int .i64 (addI .i64 v2.fWhole 1)), .lit (.int .i64 v2.fLost)], .blk [.lit (.int .i64 x1.fAt), .lit (.int .i64 x1.fTime), .lit (.bool x1.fMarker), .lit (.bool x1.fStart), .lit (.bool x1.fKey), .lit (.string x1.fText), .lit (.int .i64 x1.fTick)], .blk [.lit (.bool false), .lit (.int .i64 0), .lit (.int .i64 0), .lit (.int .i64 0), .sl [] .full, .lit (.int .i64 0), .lit (.int .i64 0)], .room 2]⟩ (AWp.reg Try.tyOk hΓ (keep := []) (dead := []) (by kernel_rfl) rfl (by simp)) ?_
            refine AWp.then ⟨[⟨5, none, .sl ((appL (appL [] v2.fOpen) [x1]).map Antiphonref10Unit.enc) (.own 3 2 7)⟩, ⟨4, none, .ptr 2 0⟩], [.blk [.lit (.bool v2.fVideo), .lit (.int .i64 v2.fBytes), .lit (.int .i64 v2.fUnits), .lit (.int .i64 v2.fWait), .sl [] .full, .lit (.int .i64 (addI .i64 v2.fWhole 1)), .lit (.int .i64 v2.fLost)], .blk [.lit (.int .i64 x1.fAt), .lit (.int .i64 x1.fTime), .lit (.bool x1.fMarker), .lit (.bool x1.fStart), .lit (.bool x1.fKey), .lit (.string x1.fText), .lit (.int .i64 x1.fTick)], .blk [.lit (.bool v2.fVideo), .lit (.int .i64 v2.fBytes), .lit (.int .i64 v2.fUnits), .lit (.int .i64 v2.fWait), .sl [] .full, .lit (.int .i64 (addI .i64 v2.fWhole 1)), .lit (.int .i64 v2.fLost)], .room 2]⟩ (AWp.reg Try.tyOk hΓ (keep := [5]) (dead := [8, 2]) (by kernel_rfl) rfl (by simp)) ?_
            refine AWp.ret ?_
            obtain rfl := some_inj hr
            refine fin_ret ?_
            simp

@[simp] noncomputable def gRef10Put.S : Sp
  | [.agg e0, .agg e1], _ => some { av := .tup [.agg [.lit (.bool (((gRef10Put (Antiphonref10Maker.dec e0) (Antiphonref10Unit.dec e1)).getD dflt).1.fVideo)), .lit (.int .i64 (((gRef10Put (Antiphonref10Maker.dec e0) (Antiphonref10Unit.dec e1)).getD dflt).1.fBytes)), .lit (.int .i64 (((gRef10Put (Antiphonref10Maker.dec e0) (Antiphonref10Unit.dec e1)).getD dflt).1.fUnits)), .lit (.int .i64 (((gRef10Put (Antiphonref10Maker.dec e0) (Antiphonref10Unit.dec e1)).getD dflt).1.fWait)), .sl ((((gRef10Put (Antiphonref10Maker.dec e0) (Antiphonref10Unit.dec e1)).getD dflt).1.fOpen).map Antiphonref10Unit.enc) .no, .lit (.int .i64 (((gRef10Put (Antiphonref10Maker.dec e0) (Antiphonref10Unit.dec e1)).getD dflt).1.fWhole)), .lit (.int .i64 (((gRef10Put (Antiphonref10Maker.dec e0) (Antiphonref10Unit.dec e1)).getD dflt).1.fLost))], .sl ((((gRef10Put (Antiphonref10Maker.dec e0) (Antiphonref10Unit.dec e1)).getD dflt).2).map Antiphonref10Unit.enc) .no], M := none, obl := WeakL e0 (Antiphonref10Maker.enc (Antiphonref10Maker.dec e0)) ∧ WeakL e1 (Antiphonref10Unit.enc (Antiphonref10Unit.dec e1)) ∧ (gRef10Put (Antiphonref10Maker.dec e0) (Antiphonref10Unit.dec e1)).isSome = true }
  | _, _ => none

set_option maxHeartbeats 1000000 in
theorem gRef10Put.ok : SpecOk Try.prog 15 gRef10Put.S := by
  intro l M out h
  unfold gRef10Put.S at h
  split at h
  · rename_i e0 e1
    cases h
    refine callOk_of fun ho => ?_
    obtain ⟨ox0, ox1, hs⟩ := ho
    generalize (Antiphonref10Maker.dec e0) = x0 at *
    generalize (Antiphonref10Unit.dec e1) = x1 at *
    obtain ⟨r, hr⟩ := Option.isSome_iff_exists.1 hs
    simp only [hr, Option.getD_some]
    have q := call_frame (M := M) [] (gRef10Put.can x0 x1 r hr) (by simp) rfl (by intro k i hk; simp at hk)
    exact callOk_conv q trivial (by simp; exact ⟨ox0, ox1⟩) (by simp [frameOut, gRef10Put.out]) (by simp [frameOut, gRef10Put.out])
  · cases h

@[simp] def gRef10Tick.out (_x0 : Antiphonref10Maker) (_x1 : Int) (r : Antiphonref10Maker × Bool) : Out := { av := .tup [.agg [.lit (.bool r.1.fVideo), .lit (.int .i64 r.1.fBytes), .lit (.int .i64 r.1.fUnits), .lit (.int .i64 r.1.fWait), .sl (r.1.fOpen.map Antiphonref10Unit.enc) .no, .lit (.int .i64 r.1.fWhole), .lit (.int .i64 r.1.fLost)], .lit (.bool r.2)], M := none }
def gRef10Tick.fin (x0 : Antiphonref10Maker) (x1 : Int) (r : Antiphonref10Maker × Bool) (σ : St) : Prop := finK (gRef10Tick.out x0 x1 r) [] σ.M (resA Try.ty σ.A σ.M Try.f19.results.toList)
set_option maxHeartbeats 4000000 in
set_option maxRecDepth 100000 in
theorem gRef10Tick.can (x0 : Antiphonref10Maker) (x1 : Int) (r : Antiphonref10Maker × Bool) (hr : gRef10Tick x0 x1 = some r) : CallOk Try.prog 19 [.agg [.lit (.bool x0.fVideo), .lit (.int .i64 x0.fBytes), .lit (.int .i64 x0.fUnits), .lit (.int .i64 x0.fWait), .sl (x0.fOpen.map Antiphonref10Unit.enc) .no, .lit (.int .i64 x0.fWhole), .lit (.int .i64 x0.fLost)], .lit (.int .i64 x1)] [] (gRef10Tick.out x0 x1 r) := by
  unfold gRef10Tick at hr
  have hΓ := (gamL_cons gRef10Drop.ok (gamL_nil) : GamOk Try.prog _)
  refine call_of_awp Try.tyOk Try.func19 rfl (by kernel_rfl) rfl rfl (by simp) ?_
  intro _ _ _
  refine AWp.then ⟨[⟨2, none, .ptr 0 0⟩, ⟨4, none, .ptr 1 0⟩, ⟨1, none, .lit (.int .i64 x1)⟩], [.blk [.lit (.bool x0.fVideo), .lit (.int .i64 x0.fBytes), .lit (.int .i64 x0.fUnits), .lit (.int .i64 x0.fWait), .sl (x0.fOpen.map Antiphonref10Unit.enc) .no, .lit (.int .i64 x0.fWhole), .lit (.int .i64 x0.fLost)], .blk [.lit (.bool false), .lit (.int .i64 0), .lit (.int .i64 0), .lit (.int .i64 0), .sl [] .full, .lit (.int .i64 0), .lit (.int .i64 0)]]⟩ (AWp.reg Try.tyOk hΓ (keep := [2, 4]) (dead := [0]) (by kernel_rfl) rfl (by simp)) ?_
  refine AWp.seq ?_
  obtain ⟨h4, hr⟩ := need_some hr
  refine AWp.then ⟨[⟨21, none, .lit (.bool (pickB (eqI (lenL x0.fOpen) 0) true (ltI (subI .i64 x1 ((nthI x0.fOpen 0).fTick)) x0.fWait)))⟩, ⟨2, none, .ptr 0 0⟩, ⟨4, none, .ptr 1 0⟩], [.blk [.lit (.bool x0.fVideo), .lit (.int .i64 x0.fBytes), .lit (.int .i64 x0.fUnits), .lit (.int .i64 x0.fWait), .sl (x0.fOpen.map Antiphonref10Unit.enc) .no, .lit (.int .i64 x0.fWhole), .lit (.int .i64 x0.fLost)], .blk [.lit (.bool false), .lit (.int .i64 0), .lit (.int .i64 0), .lit (.int .i64 0), .sl [] .full, .lit (.int .i64 0), .lit (.int .i64 0)]]⟩ (AWp.regD Try.mixed Try.tyOk hΓ (keep := [21]) (dead := [1]) [] [(false, []), (false, []), (false, []), (false, []), (false, []), (false, [10]), (false, [10]), (false, [10]), (false, [10]), (false, [10]), (false, [10]), (false, [10]), (false, [10]), (false, [10]), (false, [10]), (false, [])] (by kernel_rfl) rfl (by simp [h4])) ?_
  refine AWp.cond (b := (pickB (eqI (lenL x0.fOpen) 0) true (ltI (subI .i64 x1 ((nthI x0.fOpen 0).fTick)) x0.fWait))) (by simp) (fun h5 => ?_) (fun h5 => ?_)
  · have hr := cond_t h5 hr
    refine AWp.then ⟨[⟨5, none, .lit (.bool false)⟩, ⟨4, none, .ptr 1 0⟩], [.blk [.lit (.bool x0.fVideo), .lit (.int .i64 x0.fBytes), .lit (.int .i64 x0.fUnits), .lit (.int .i64 x0.fWait), .sl (x0.fOpen.map Antiphonref10Unit.enc) .no, .lit (.int .i64 x0.fWhole), .lit (.int .i64 x0.fLost)], .blk [.lit (.bool x0.fVideo), .lit (.int .i64 x0.fBytes), .lit (.int .i64 x0.fUnits), .lit (.int .i64 x0.fWait), .sl (x0.fOpen.map Antiphonref10Unit.enc) .no, .lit (.int .i64 x0.fWhole), .lit (.int .i64 x0.fLost)]]⟩ (AWp.reg Try.tyOk hΓ (keep := [5]) (dead := [21, 2]) (by kernel_rfl) rfl (by simp [h5])) ?_
    refine AWp.ret ?_
    obtain rfl := some_inj hr
    refine fin_ret ?_
    simp
  · have hr := cond_f h5 hr
    refine AWp.skip ?_
    obtain ⟨r1, h6, hr⟩ := bind_some' hr
    refine AWp.then ⟨[⟨5, none, .lit (.bool true)⟩, ⟨4, none, .ptr 1 0⟩], [.blk [.lit (.bool x0.fVideo), .lit (.int .i64 x0.fBytes), .lit (.int .i64 x0.fUnits), .lit (.int .i64 x0.fWait), .sl (x0.fOpen.map Antiphonref10Unit.enc) .no, .lit (.int .i64 x0.fWhole), .lit (.int .i64 x0.fLost)], .blk [.lit (.bool r1.fVideo), .lit (.int .i64 r1.fBytes), .lit (.int .i64 r1.fUnits), .lit (.int .i64 r1.fWait), .sl (r1.fOpen.map Antiphonref10Unit.enc) .no, .lit (.int .i64 r1.fWhole), .lit (.int .i64 r1.fLost)]]⟩ (AWp.reg Try.tyOk hΓ (keep := [5]) (dead := [21, 2]) (by kernel_rfl) rfl (by simp [h5, h6])) ?_
    refine AWp.ret ?_
    obtain rfl := some_inj hr
    refine fin_ret ?_
    simp

@[simp] noncomputable def gRef10Tick.S : Sp
  | [.agg e0, .lit (.int .i64 x1)], _ => some { av := .tup [.agg [.lit (.bool (((gRef10Tick (Antiphonref10Maker.dec e0) x1).getD dflt).1.fVideo)), .lit (.int .i64 (((gRef10Tick (Antiphonref10Maker.dec e0) x1).getD dflt).1.fBytes)), .lit (.int .i64 (((gRef10Tick (Antiphonref10Maker.dec e0) x1).getD dflt).1.fUnits)), .lit (.int .i64 (((gRef10Tick (Antiphonref10Maker.dec e0) x1).getD dflt).1.fWait)), .sl ((((gRef10Tick (Antiphonref10Maker.dec e0) x1).getD dflt).1.fOpen).map Antiphonref10Unit.enc) .no, .lit (.int .i64 (((gRef10Tick (Antiphonref10Maker.dec e0) x1).getD dflt).1.fWhole)), .lit (.int .i64 (((gRef10Tick (Antiphonref10Maker.dec e0) x1).getD dflt).1.fLost))], .lit (.bool (((gRef10Tick (Antiphonref10Maker.dec e0) x1).getD dflt).2))], M := none, obl := WeakL e0 (Antiphonref10Maker.enc (Antiphonref10Maker.dec e0)) ∧ (gRef10Tick (Antiphonref10Maker.dec e0) x1).isSome = true }
  | _, _ => none

set_option maxHeartbeats 1000000 in
theorem gRef10Tick.ok : SpecOk Try.prog 19 gRef10Tick.S := by
  intro l M out h
  unfold gRef10Tick.S at h
  split at h
  · rename_i e0 x1
    cases h
    refine callOk_of fun ho => ?_
    obtain ⟨ox0, hs⟩ := ho
    generalize (Antiphonref10Maker.dec e0) = x0 at *
    obtain ⟨r, hr⟩ := Option.isSome_iff_exists.1 hs
    simp only [hr, Option.getD_some]
    have q := call_frame (M := M) [] (gRef10Tick.can x0 x1 r hr) (by simp) rfl (by intro k i hk; simp at hk)
    exact callOk_conv q trivial (by simp; exact ox0) (by simp [frameOut, gRef10Tick.out]) (by simp [frameOut, gRef10Tick.out])
  · cases h
end Go.Proofs
