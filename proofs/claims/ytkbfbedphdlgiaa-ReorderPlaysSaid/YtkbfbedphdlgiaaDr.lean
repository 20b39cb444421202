/- That these functions compute what their plain functions do. No condition. -/
import Derived.Test.YtkbfbedphdlgiaaDrD
import Derived.Test.YtkbfbedphdlgiaaTy
import Derived.Test.YtkbfbedphdlgiaaRo
import Derived.Test.YtkbfbedphdlgiaaRr
import Derived.Test.YtkbfbedphdlgiaaCu
import Derived.Test.YtkbfbedphdlgiaaRp
namespace Go.Proofs
open Go.Ab
@[simp] def gLaw09Same.out (_x0 : List Antiphonref09Thing) (_x1 : List Antiphonref09Thing) (r : Bool) : Out := { av := .lit (.bool r), M := none }
def gLaw09Same.fin (x0 : List Antiphonref09Thing) (x1 : List Antiphonref09Thing) (r : Bool) (σ : St) : Prop := finK (gLaw09Same.out x0 x1 r) [] σ.M (resA Try.ty σ.A σ.M Try.f26.results.toList)
set_option maxHeartbeats 4000000 in
set_option maxRecDepth 100000 in
theorem gLaw09Same.can (x0 : List Antiphonref09Thing) (x1 : List Antiphonref09Thing) (r : Bool) (hr : gLaw09Same x0 x1 = some r) : CallOk Try.prog 26 [.sl (x0.map Antiphonref09Thing.enc) .no, .sl (x1.map Antiphonref09Thing.enc) .no] [] (gLaw09Same.out x0 x1 r) := by
  unfold gLaw09Same at hr
  have hΓ := gamL_nil (P := Try.prog)
  refine call_of_awp Try.tyOk Try.func26 rfl (by kernel_rfl) rfl rfl (by simp) ?_
  intro _ _ _
  refine AWp.then ⟨[⟨0, none, .sl (x0.map Antiphonref09Thing.enc) .no⟩, ⟨1, none, .sl (x1.map Antiphonref09Thing.enc) .no⟩], []⟩ (AWp.reg Try.tyOk hΓ (keep := []) (dead := []) (by kernel_rfl) rfl (by simp)) ?_
  refine AWp.seq ?_
  refine AWp.then ⟨[⟨10, none, .lit (.bool (neI (lenL x0) (lenL x1)))⟩, ⟨0, none, .sl (x0.map Antiphonref09Thing.enc) .no⟩, ⟨1, none, .sl (x1.map Antiphonref09Thing.enc) .no⟩], []⟩ (AWp.reg Try.tyOk hΓ (keep := [10]) (dead := []) (by kernel_rfl) rfl (by simp)) ?_
  refine AWp.cond (b := (neI (lenL x0) (lenL x1))) (by simp) (fun h6 => ?_) (fun h6 => ?_)
  · have hr := cond_t h6 hr
    refine AWp.then ⟨[⟨4, none, .lit (.bool false)⟩], []⟩ (AWp.reg Try.tyOk hΓ (keep := [4]) (dead := [10, 0, 1]) (by kernel_rfl) rfl (by simp [h6])) ?_
    refine AWp.ret ?_
    obtain rfl := some_inj hr
    refine fin_ret ?_
    simp
  · have hr := cond_f h6 hr
    refine AWp.skip ?_
    refine AWp.seq ?_
    refine AWp.then ⟨[⟨12, none, .lit (.int .i64 (lenL x1))⟩, ⟨13, none, .lit (.int .i64 0)⟩, ⟨0, none, .sl (x0.map Antiphonref09Thing.enc) .no⟩, ⟨1, none, .sl (x1.map Antiphonref09Thing.enc) .no⟩], []⟩ (AWp.reg Try.tyOk hΓ (keep := [12, 13]) (dead := [10]) (by kernel_rfl) rfl (by simp [h6])) ?_
    refine AWp.loopE (fun (s1 : Int) (γ1 : Unit) => ⟨[⟨12, none, .lit (.int .i64 (lenL x1))⟩, ⟨13, none, .lit (.int .i64 s1)⟩, ⟨0, none, .sl (x0.map Antiphonref09Thing.enc) .no⟩, ⟨1, none, .sl (x1.map Antiphonref09Thing.enc) .no⟩], []⟩) (fun (v1 : Unit) (γ1a : Unit) => ⟨[], []⟩) (gLaw09Same.fin x0 x1) hr () 0 (by simp) (fun s1 f γ1 hr => ?_) (fun v1 γ1a σ1 m1 hr hc => ?_) (fun _ h => h)
    · unfold gLaw09Same.loop1 at hr
      refine AWp.then ⟨[⟨14, none, .lit (.bool (ltI s1 (lenL x1)))⟩, ⟨12, none, .lit (.int .i64 (lenL x1))⟩, ⟨13, none, .lit (.int .i64 s1)⟩, ⟨0, none, .sl (x0.map Antiphonref09Thing.enc) .no⟩, ⟨1, none, .sl (x1.map Antiphonref09Thing.enc) .no⟩], []⟩ (AWp.reg Try.tyOk hΓ (keep := [14]) (dead := []) (by kernel_rfl) rfl (by simp)) ?_
      refine AWp.seq ?_
      refine AWp.cond (b := (ltI s1 (lenL x1))) (by simp) (fun h7 => ?_) (fun h7 => ?_)
      · have hr := cond_t h7 hr
        refine AWp.skip ?_
        refine AWp.seq ?_
        refine AWp.block ?_
        refine AWp.then ⟨[⟨5, none, .lit (.int .i64 s1)⟩, ⟨12, none, .lit (.int .i64 (lenL x1))⟩, ⟨13, none, .lit (.int .i64 s1)⟩, ⟨0, none, .sl (x0.map Antiphonref09Thing.enc) .no⟩, ⟨1, none, .sl (x1.map Antiphonref09Thing.enc) .no⟩], []⟩ (AWp.reg Try.tyOk hΓ (keep := [5]) (dead := [14]) (by kernel_rfl) rfl (by simp [h7])) ?_
        obtain ⟨h8, hr⟩ := need_some hr
        obtain ⟨h9, hr⟩ := need_some hr
        refine AWp.then ⟨[⟨24, none, .lit (.bool (notB (pickB (eqI ((nthI x0 s1).fAt) ((nthI x1 s1).fAt)) (pickB (eqS ((nthI x0 s1).fText) ((nthI x1 s1).fText)) (eqI ((nthI x0 s1).fTick) ((nthI x1 s1).fTick)) false) false)))⟩, ⟨12, none, .lit (.int .i64 (lenL x1))⟩, ⟨13, none, .lit (.int .i64 s1)⟩, ⟨0, none, .sl (x0.map Antiphonref09Thing.enc) .no⟩, ⟨1, none, .sl (x1.map Antiphonref09Thing.enc) .no⟩], []⟩ (AWp.regD Try.mixed Try.tyOk hΓ (keep := [24]) (dead := [5]) [] [(false, []), (false, []), (false, []), (false, []), (false, []), (false, []), (false, []), (false, []), (false, [])] (by kernel_rfl) rfl (by simp [h8, h9])) ?_
        refine AWp.cond (b := (notB (pickB (eqI ((nthI x0 s1).fAt) ((nthI x1 s1).fAt)) (pickB (eqS ((nthI x0 s1).fText) ((nthI x1 s1).fText)) (eqI ((nthI x0 s1).fTick) ((nthI x1 s1).fTick)) false) false))) (by simp) (fun h10 => ?_) (fun h10 => ?_)
        · have hr := cond_t h10 hr
          refine AWp.then ⟨[⟨4, none, .lit (.bool false)⟩], []⟩ (AWp.reg Try.tyOk hΓ (keep := [4]) (dead := [24, 12, 13, 0, 1]) (by kernel_rfl) rfl (by simp [h10])) ?_
          refine AWp.ret ?_
          obtain rfl := some_inj hr
          refine round_ret ?_
          refine fin_ret ?_
          simp
        · have hr := cond_f h10 hr
          refine AWp.skip ?_
          refine AWp.last ⟨[⟨13, none, .lit (.int .i64 (addI .i64 s1 1))⟩, ⟨12, none, .lit (.int .i64 (lenL x1))⟩, ⟨0, none, .sl (x0.map Antiphonref09Thing.enc) .no⟩, ⟨1, none, .sl (x1.map Antiphonref09Thing.enc) .no⟩], []⟩ (AWp.reg Try.tyOk hΓ (keep := [13]) (dead := [24]) (by kernel_rfl) rfl (by simp [h10])) ?_
          obtain rfl := some_inj hr
          exact round_go () 0 (by simp)
      · have hr := cond_f h7 hr
        refine AWp.exit ?_
        obtain rfl := some_inj hr
        exact round_out () 0 (by simp)
    · refine AWp.conv hc ?_
      refine AWp.then ⟨[⟨4, none, .lit (.bool true)⟩], []⟩ (AWp.reg Try.tyOk hΓ (keep := [4]) (dead := []) (by kernel_rfl) rfl (by simp)) ?_
      refine AWp.ret ?_
      obtain rfl := some_inj hr
      refine fin_ret ?_
      simp

@[simp] noncomputable def gLaw09Same.S : Sp
  | [.sl e0 _, .sl e1 _], _ => some { av := .lit (.bool ((gLaw09Same (e0.map Antiphonref09Thing.dec) (e1.map Antiphonref09Thing.dec)).getD dflt)), M := none, obl := e0 = (e0.map Antiphonref09Thing.dec).map Antiphonref09Thing.enc ∧ e1 = (e1.map Antiphonref09Thing.dec).map Antiphonref09Thing.enc ∧ (gLaw09Same (e0.map Antiphonref09Thing.dec) (e1.map Antiphonref09Thing.dec)).isSome = true }
  | _, _ => none

set_option maxHeartbeats 1000000 in
theorem gLaw09Same.ok : SpecOk Try.prog 26 gLaw09Same.S := by
  intro l M out h
  unfold gLaw09Same.S at h
  split at h
  · rename_i e0 k0 e1 k1
    cases h
    refine callOk_of fun ho => ?_
    obtain ⟨ox0, ox1, hs⟩ := ho
    generalize (e0.map Antiphonref09Thing.dec) = x0 at *
    generalize (e1.map Antiphonref09Thing.dec) = x1 at *
    subst ox0
    subst ox1
    obtain ⟨r, hr⟩ := Option.isSome_iff_exists.1 hs
    simp only [hr, Option.getD_some]
    have q := call_frame (M := M) [] (gLaw09Same.can x0 x1 r hr) (by simp) rfl (by intro k i hk; simp at hk)
    exact callOk_conv q trivial (by simp) (by simp [frameOut, gLaw09Same.out]) (by simp [frameOut, gLaw09Same.out])
  · cases h

@[simp] def gLaw09Begin.out (_x0 : Int) (_x1 : Int) (r : Antiphonlaw09State × Bool) : Out := { av := .tup [.agg [.ptr 4 0, .lit (.int .i64 r.1.fX.fMost), .lit (.int .i64 r.1.fX.fWait), .lit (.bool r.1.fX.fBegun), .lit (.int .i64 r.1.fX.fNext), .sl (r.1.fX.fL.map Antiphonref09Thing.enc) .no, .lit (.int .i64 r.1.fX.fLost), .lit (.int .i64 r.1.fNow)], .lit (.bool r.2)], M := some [.dead, .dead, .dead, .mapo (encM (kI .i64) (vA Antiphonref09Thing.enc) r.1.fB.fOf), .blk [.lit (.int .i64 r.1.fB.fConfig.fMost), .lit (.int .i64 r.1.fB.fConfig.fWait), .lit (.bool r.1.fB.fBegun), .lit (.int .i64 r.1.fB.fNext), .mp 3, .lit (.int .i64 r.1.fB.fLost)]] }
def gLaw09Begin.fin (x0 : Int) (x1 : Int) (r : Antiphonlaw09State × Bool) (σ : St) : Prop := finK (gLaw09Begin.out x0 x1 r) [] σ.M (resA Try.ty σ.A σ.M Try.f14.results.toList)
set_option maxHeartbeats 4000000 in
set_option maxRecDepth 100000 in
theorem gLaw09Begin.can (x0 : Int) (x1 : Int) (r : Antiphonlaw09State × Bool) (hr : gLaw09Begin x0 x1 = some r) : CallOk Try.prog 14 [.lit (.int .i64 x0), .lit (.int .i64 x1)] [] (gLaw09Begin.out x0 x1 r) := by
  unfold gLaw09Begin at hr
  have hΓ := (gamL_cons gReorderNew.ok (gamL_nil) : GamOk Try.prog _)
  refine call_of_awp Try.tyOk Try.func14 rfl (by kernel_rfl) rfl rfl (by simp) ?_
  intro _ _ _
  refine AWp.then ⟨[⟨4, none, .ptr 0 0⟩, ⟨0, none, .lit (.int .i64 x0)⟩, ⟨1, none, .lit (.int .i64 x1)⟩], [.blk [.lit (.pointer none), .lit (.int .i64 0), .lit (.int .i64 0), .lit (.bool false), .lit (.int .i64 0), .sl [] .full, .lit (.int .i64 0), .lit (.int .i64 0)]]⟩ (AWp.reg Try.tyOk hΓ (keep := [4]) (dead := []) (by kernel_rfl) rfl (by simp)) ?_
  obtain ⟨h4, hr⟩ := need_some hr
  refine AWp.then ⟨[⟨6, none, .ptr 1 0⟩, ⟨4, none, .ptr 0 0⟩], [.blk [.lit (.pointer none), .lit (.int .i64 0), .lit (.int .i64 0), .lit (.bool false), .lit (.int .i64 0), .sl [] .full, .lit (.int .i64 0), .lit (.int .i64 0)], .blk [.lit (.int .i64 (addI .i64 1 (remI (bitsOp .and .i64 x0 255) 12))), .lit (.int .i64 (bitsOp .and .i64 x1 15))]]⟩ (AWp.reg Try.tyOk hΓ (keep := [6]) (dead := [0, 1]) (by kernel_rfl) rfl (by simp [h4])) ?_
  obtain ⟨r1, h5, hr⟩ := bind_some' hr
  cases h6 : r1.1 with
  | none =>
    have hr := optC_n h6 hr
    refine AWp.then ⟨[⟨7, none, .lit (.pointer none)⟩, ⟨8, none, .lit (.int .i64 r1.2)⟩, ⟨6, none, .ptr 1 0⟩, ⟨4, none, .ptr 0 0⟩], [.blk [.lit (.pointer none), .lit (.int .i64 0), .lit (.int .i64 0), .lit (.bool false), .lit (.int .i64 0), .sl [] .full, .lit (.int .i64 0), .lit (.int .i64 0)], .blk [.lit (.int .i64 (addI .i64 1 (remI (bitsOp .and .i64 x0 255) 12))), .lit (.int .i64 (bitsOp .and .i64 x1 15))]]⟩ (AWp.reg Try.tyOk hΓ (keep := [7, 8]) (dead := []) (by kernel_rfl) rfl (by simp [h5, h6])) ?_
    refine AWp.then ⟨[⟨5, none, .lit (.bool (pickB (eqI r1.2 0) false false))⟩, ⟨4, none, .ptr 0 0⟩], [.blk [.lit (.pointer none), .lit (.int .i64 (addI .i64 1 (remI (bitsOp .and .i64 x0 255) 12))), .lit (.int .i64 (bitsOp .and .i64 x1 15)), .lit (.bool false), .lit (.int .i64 0), .sl [] .full, .lit (.int .i64 0), .lit (.int .i64 0)], .blk [.lit (.int .i64 (addI .i64 1 (remI (bitsOp .and .i64 x0 255) 12))), .lit (.int .i64 (bitsOp .and .i64 x1 15))]]⟩ (AWp.reg Try.tyOk hΓ (keep := [5]) (dead := [7, 8, 6]) (by kernel_rfl) rfl (by simp)) ?_
    cases hr
  | some o1 =>
    have hr := optC_s h6 hr
    refine AWp.then ⟨[⟨7, none, .ptr 4 0⟩, ⟨8, none, .lit (.int .i64 r1.2)⟩, ⟨6, none, .ptr 1 0⟩, ⟨4, none, .ptr 0 0⟩], [.blk [.lit (.pointer none), .lit (.int .i64 0), .lit (.int .i64 0), .lit (.bool false), .lit (.int .i64 0), .sl [] .full, .lit (.int .i64 0), .lit (.int .i64 0)], .blk [.lit (.int .i64 (addI .i64 1 (remI (bitsOp .and .i64 x0 255) 12))), .lit (.int .i64 (bitsOp .and .i64 x1 15))], .dead, .mapo (encM (kI .i64) (vA Antiphonref09Thing.enc) o1.fOf), .blk [.lit (.int .i64 o1.fConfig.fMost), .lit (.int .i64 o1.fConfig.fWait), .lit (.bool o1.fBegun), .lit (.int .i64 o1.fNext), .mp 3, .lit (.int .i64 o1.fLost)]]⟩ (AWp.reg Try.tyOk hΓ (keep := [7, 8]) (dead := []) (by kernel_rfl) rfl (by simp [h5, h6])) ?_
    refine AWp.then ⟨[⟨5, none, .lit (.bool (pickB (eqI r1.2 0) true false))⟩, ⟨4, none, .ptr 0 0⟩], [.blk [.ptr 4 0, .lit (.int .i64 (addI .i64 1 (remI (bitsOp .and .i64 x0 255) 12))), .lit (.int .i64 (bitsOp .and .i64 x1 15)), .lit (.bool false), .lit (.int .i64 0), .sl [] .full, .lit (.int .i64 0), .lit (.int .i64 0)], .blk [.lit (.int .i64 (addI .i64 1 (remI (bitsOp .and .i64 x0 255) 12))), .lit (.int .i64 (bitsOp .and .i64 x1 15))], .dead, .mapo (encM (kI .i64) (vA Antiphonref09Thing.enc) o1.fOf), .blk [.lit (.int .i64 o1.fConfig.fMost), .lit (.int .i64 o1.fConfig.fWait), .lit (.bool o1.fBegun), .lit (.int .i64 o1.fNext), .mp 3, .lit (.int .i64 o1.fLost)]]⟩ (AWp.reg Try.tyOk hΓ (keep := [5]) (dead := [7, 8, 6]) (by kernel_rfl) rfl (by simp)) ?_
    refine AWp.ret ?_
    obtain rfl := some_inj hr
    refine fin_ret ?_
    simp

@[simp] noncomputable def gLaw09Begin.S : Sp
  | [.lit (.int .i64 x0), .lit (.int .i64 x1)], M => some { av := .tup [.agg [.ptr (M.length + 4) 0, .lit (.int .i64 (((gLaw09Begin x0 x1).getD dflt).1.fX.fMost)), .lit (.int .i64 (((gLaw09Begin x0 x1).getD dflt).1.fX.fWait)), .lit (.bool (((gLaw09Begin x0 x1).getD dflt).1.fX.fBegun)), .lit (.int .i64 (((gLaw09Begin x0 x1).getD dflt).1.fX.fNext)), .sl ((((gLaw09Begin x0 x1).getD dflt).1.fX.fL).map Antiphonref09Thing.enc) .no, .lit (.int .i64 (((gLaw09Begin x0 x1).getD dflt).1.fX.fLost)), .lit (.int .i64 (((gLaw09Begin x0 x1).getD dflt).1.fNow))], .lit (.bool (((gLaw09Begin x0 x1).getD dflt).2))], M := some (M ++ [.dead, .dead, .dead, .mapo (encM (kI .i64) (vA Antiphonref09Thing.enc) (((gLaw09Begin x0 x1).getD dflt).1.fB.fOf)), .blk [.lit (.int .i64 (((gLaw09Begin x0 x1).getD dflt).1.fB.fConfig.fMost)), .lit (.int .i64 (((gLaw09Begin x0 x1).getD dflt).1.fB.fConfig.fWait)), .lit (.bool (((gLaw09Begin x0 x1).getD dflt).1.fB.fBegun)), .lit (.int .i64 (((gLaw09Begin x0 x1).getD dflt).1.fB.fNext)), .mp (M.length + 3), .lit (.int .i64 (((gLaw09Begin x0 x1).getD dflt).1.fB.fLost))]]), obl := (gLaw09Begin x0 x1).isSome = true }
  | _, _ => none

set_option maxHeartbeats 1000000 in
theorem gLaw09Begin.ok : SpecOk Try.prog 14 gLaw09Begin.S := by
  intro l M out h
  unfold gLaw09Begin.S at h
  split at h
  · rename_i x0 x1
    cases h
    refine callOk_of fun ho => ?_
    have hs := ho
    obtain ⟨r, hr⟩ := Option.isSome_iff_exists.1 hs
    simp only [hr, Option.getD_some]
    have q := call_frame (M := M) [] (gLaw09Begin.can x0 x1 r hr) (by simp) rfl (by intro k i hk; simp at hk)
    exact callOk_conv q trivial (by simp) (by simp [frameOut, gLaw09Begin.out, into]) (by simp [frameOut, gLaw09Begin.out, into])
  · cases h

@[simp] def gLaw09Does.out (_x0 : Antiphonlaw09State) (_x1 : Antiphonlaw09Act) (r : Antiphonlaw09State × List Antiphonref09Thing × Bool) : Out := { av := .tup [.agg [.ptr 0 0, .lit (.int .i64 r.1.fX.fMost), .lit (.int .i64 r.1.fX.fWait), .lit (.bool r.1.fX.fBegun), .lit (.int .i64 r.1.fX.fNext), .sl (r.1.fX.fL.map Antiphonref09Thing.enc) .no, .lit (.int .i64 r.1.fX.fLost), .lit (.int .i64 r.1.fNow)], .sl (r.2.1.map Antiphonref09Thing.enc) .no, .lit (.bool r.2.2)], M := some [.blk [.lit (.int .i64 r.1.fB.fConfig.fMost), .lit (.int .i64 r.1.fB.fConfig.fWait), .lit (.bool r.1.fB.fBegun), .lit (.int .i64 r.1.fB.fNext), .mp 1, .lit (.int .i64 r.1.fB.fLost)], .mapo (encM (kI .i64) (vA Antiphonref09Thing.enc) r.1.fB.fOf)] }
def gLaw09Does.fin (x0 : Antiphonlaw09State) (x1 : Antiphonlaw09Act) (r : Antiphonlaw09State × List Antiphonref09Thing × Bool) (σ : St) : Prop := finK (gLaw09Does.out x0 x1 r) [.blk [.lit (.int .i64 x0.fB.fConfig.fMost), .lit (.int .i64 x0.fB.fConfig.fWait), .lit (.bool x0.fB.fBegun), .lit (.int .i64 x0.fB.fNext), .mp 1, .lit (.int .i64 x0.fB.fLost)], .mapo (encM (kI .i64) (vA Antiphonref09Thing.enc) x0.fB.fOf)] σ.M (resA Try.ty σ.A σ.M Try.f15.results.toList)
set_option maxHeartbeats 4000000 in
set_option maxRecDepth 100000 in
theorem gLaw09Does.can (x0 : Antiphonlaw09State) (x1 : Antiphonlaw09Act) (r : Antiphonlaw09State × List Antiphonref09Thing × Bool) (hr : gLaw09Does x0 x1 = some r) : CallOk Try.prog 15 [.agg [.ptr 0 0, .lit (.int .i64 x0.fX.fMost), .lit (.int .i64 x0.fX.fWait), .lit (.bool x0.fX.fBegun), .lit (.int .i64 x0.fX.fNext), .sl (x0.fX.fL.map Antiphonref09Thing.enc) .no, .lit (.int .i64 x0.fX.fLost), .lit (.int .i64 x0.fNow)], .agg [.lit (.int .i64 x1.fKind), .lit (.int .i64 x1.fBy), .lit (.string x1.fS)]] [.blk [.lit (.int .i64 x0.fB.fConfig.fMost), .lit (.int .i64 x0.fB.fConfig.fWait), .lit (.bool x0.fB.fBegun), .lit (.int .i64 x0.fB.fNext), .mp 1, .lit (.int .i64 x0.fB.fLost)], .mapo (encM (kI .i64) (vA Antiphonref09Thing.enc) x0.fB.fOf)] (gLaw09Does.out x0 x1 r) := by
  unfold gLaw09Does at hr
  have hΓ := (gamL_cons gReorderBufferFlush.ok (gamL_cons gReorderBufferPut.ok (gamL_cons gReorderBufferTick.ok (gamL_cons gLaw01Cut.ok (gamL_cons gLaw09Same.ok (gamL_cons gRef09Put.ok (gamL_cons gRef09Skip.ok (gamL_cons gRef09Tick.ok (gamL_nil)))))))) : GamOk Try.prog _)
  refine call_of_awp Try.tyOk Try.func15 rfl (by kernel_rfl) rfl rfl (by simp) ?_
  intro _ _ _
  refine AWp.then ⟨[⟨2, none, .ptr 2 0⟩, ⟨3, none, .ptr 3 0⟩, ⟨4, none, .ptr 4 0⟩], [.blk [.lit (.int .i64 x0.fB.fConfig.fMost), .lit (.int .i64 x0.fB.fConfig.fWait), .lit (.bool x0.fB.fBegun), .lit (.int .i64 x0.fB.fNext), .mp 1, .lit (.int .i64 x0.fB.fLost)], .mapo (encM (kI .i64) (vA Antiphonref09Thing.enc) x0.fB.fOf), .blk [.ptr 0 0, .lit (.int .i64 x0.fX.fMost), .lit (.int .i64 x0.fX.fWait), .lit (.bool x0.fX.fBegun), .lit (.int .i64 x0.fX.fNext), .sl (x0.fX.fL.map Antiphonref09Thing.enc) .no, .lit (.int .i64 x0.fX.fLost), .lit (.int .i64 x0.fNow)], .blk [.lit (.int .i64 x1.fKind), .lit (.int .i64 x1.fBy), .lit (.string x1.fS)], .blk [.lit (.pointer none), .lit (.int .i64 0), .lit (.int .i64 0), .lit (.bool false), .lit (.int .i64 0), .sl [] .full, .lit (.int .i64 0), .lit (.int .i64 0)]]⟩ (AWp.reg Try.tyOk hΓ (keep := [2, 3, 4]) (dead := [0, 1]) (by kernel_rfl) rfl (by simp)) ?_
  refine AWp.seq ?_
  refine AWp.then ⟨[⟨22, none, .lit (.int .i64 x1.fKind)⟩, ⟨2, none, .ptr 2 0⟩, ⟨3, none, .ptr 3 0⟩, ⟨4, none, .ptr 4 0⟩], [.blk [.lit (.int .i64 x0.fB.fConfig.fMost), .lit (.int .i64 x0.fB.fConfig.fWait), .lit (.bool x0.fB.fBegun), .lit (.int .i64 x0.fB.fNext), .mp 1, .lit (.int .i64 x0.fB.fLost)], .mapo (encM (kI .i64) (vA Antiphonref09Thing.enc) x0.fB.fOf), .blk [.ptr 0 0, .lit (.int .i64 x0.fX.fMost), .lit (.int .i64 x0.fX.fWait), .lit (.bool x0.fX.fBegun), .lit (.int .i64 x0.fX.fNext), .sl (x0.fX.fL.map Antiphonref09Thing.enc) .no, .lit (.int .i64 x0.fX.fLost), .lit (.int .i64 x0.fNow)], .blk [.lit (.int .i64 x1.fKind), .lit (.int .i64 x1.fBy), .lit (.string x1.fS)], .blk [.lit (.pointer none), .lit (.int .i64 0), .lit (.int .i64 0), .lit (.bool false), .lit (.int .i64 0), .sl [] .full, .lit (.int .i64 0), .lit (.int .i64 0)]]⟩ (AWp.reg Try.tyOk hΓ (keep := [22]) (dead := []) (by kernel_rfl) rfl (by simp)) ?_
  refine AWp.block ?_
  refine AWp.then ⟨[⟨23, none, .lit (.bool (eqI x1.fKind 1))⟩, ⟨22, none, .lit (.int .i64 x1.fKind)⟩, ⟨2, none, .ptr 2 0⟩, ⟨3, none, .ptr 3 0⟩, ⟨4, none, .ptr 4 0⟩], [.blk [.lit (.int .i64 x0.fB.fConfig.fMost), .lit (.int .i64 x0.fB.fConfig.fWait), .lit (.bool x0.fB.fBegun), .lit (.int .i64 x0.fB.fNext), .mp 1, .lit (.int .i64 x0.fB.fLost)], .mapo (encM (kI .i64) (vA Antiphonref09Thing.enc) x0.fB.fOf), .blk [.ptr 0 0, .lit (.int .i64 x0.fX.fMost), .lit (.int .i64 x0.fX.fWait), .lit (.bool x0.fX.fBegun), .lit (.int .i64 x0.fX.fNext), .sl (x0.fX.fL.map Antiphonref09Thing.enc) .no, .lit (.int .i64 x0.fX.fLost), .lit (.int .i64 x0.fNow)], .blk [.lit (.int .i64 x1.fKind), .lit (.int .i64 x1.fBy), .lit (.string x1.fS)], .blk [.lit (.pointer none), .lit (.int .i64 0), .lit (.int .i64 0), .lit (.bool false), .lit (.int .i64 0), .sl [] .full, .lit (.int .i64 0), .lit (.int .i64 0)]]⟩ (AWp.reg Try.tyOk hΓ (keep := [23]) (dead := []) (by kernel_rfl) rfl (by simp)) ?_
  refine AWp.cond (b := (eqI x1.fKind 1)) (by simp) (fun h17 => ?_) (fun h17 => ?_)
  · have hr := cond_t h17 hr
    refine AWp.then ⟨[⟨7, none, .lit (.int .i64 (maxI (subI .i64 (addI .i64 x0.fX.fNext (bitsOp .and .i64 x1.fBy 31)) 8) 0))⟩, ⟨2, none, .ptr 2 0⟩, ⟨3, none, .ptr 3 0⟩, ⟨4, none, .ptr 4 0⟩], [.blk [.lit (.int .i64 x0.fB.fConfig.fMost), .lit (.int .i64 x0.fB.fConfig.fWait), .lit (.bool x0.fB.fBegun), .lit (.int .i64 x0.fB.fNext), .mp 1, .lit (.int .i64 x0.fB.fLost)], .mapo (encM (kI .i64) (vA Antiphonref09Thing.enc) x0.fB.fOf), .blk [.ptr 0 0, .lit (.int .i64 x0.fX.fMost), .lit (.int .i64 x0.fX.fWait), .lit (.bool x0.fX.fBegun), .lit (.int .i64 x0.fX.fNext), .sl (x0.fX.fL.map Antiphonref09Thing.enc) .no, .lit (.int .i64 x0.fX.fLost), .lit (.int .i64 x0.fNow)], .blk [.lit (.int .i64 x1.fKind), .lit (.int .i64 x1.fBy), .lit (.string x1.fS)], .blk [.lit (.pointer none), .lit (.int .i64 0), .lit (.int .i64 0), .lit (.bool false), .lit (.int .i64 0), .sl [] .full, .lit (.int .i64 0), .lit (.int .i64 0)]]⟩ (AWp.reg Try.tyOk hΓ (keep := [7]) (dead := [23, 22]) (by kernel_rfl) rfl (by simp [h17])) ?_
    refine AWp.meetF (fun (v1 : Int) (γ1 : Unit) => ⟨[⟨7, none, .lit (.int .i64 v1)⟩, ⟨2, none, .ptr 2 0⟩, ⟨3, none, .ptr 3 0⟩, ⟨4, none, .ptr 4 0⟩], [.blk [.lit (.int .i64 x0.fB.fConfig.fMost), .lit (.int .i64 x0.fB.fConfig.fWait), .lit (.bool x0.fB.fBegun), .lit (.int .i64 x0.fB.fNext), .mp 1, .lit (.int .i64 x0.fB.fLost)], .mapo (encM (kI .i64) (vA Antiphonref09Thing.enc) x0.fB.fOf), .blk [.ptr 0 0, .lit (.int .i64 x0.fX.fMost), .lit (.int .i64 x0.fX.fWait), .lit (.bool x0.fX.fBegun), .lit (.int .i64 x0.fX.fNext), .sl (x0.fX.fL.map Antiphonref09Thing.enc) .no, .lit (.int .i64 x0.fX.fLost), .lit (.int .i64 x0.fNow)], .blk [.lit (.int .i64 x1.fKind), .lit (.int .i64 x1.fBy), .lit (.string x1.fS)], .blk [.lit (.pointer none), .lit (.int .i64 0), .lit (.int .i64 0), .lit (.bool false), .lit (.int .i64 0), .sl [] .full, .lit (.int .i64 0), .lit (.int .i64 0)]]⟩) (gLaw09Does.fin x0 x1) hr (fun f hr => ?_) (fun v1 γ1 hr => ?_) (fun _ h => h)
    · refine AWp.then ⟨[⟨37, none, .lit (.bool (notB x0.fX.fBegun))⟩, ⟨7, none, .lit (.int .i64 (maxI (subI .i64 (addI .i64 x0.fX.fNext (bitsOp .and .i64 x1.fBy 31)) 8) 0))⟩, ⟨2, none, .ptr 2 0⟩, ⟨3, none, .ptr 3 0⟩, ⟨4, none, .ptr 4 0⟩], [.blk [.lit (.int .i64 x0.fB.fConfig.fMost), .lit (.int .i64 x0.fB.fConfig.fWait), .lit (.bool x0.fB.fBegun), .lit (.int .i64 x0.fB.fNext), .mp 1, .lit (.int .i64 x0.fB.fLost)], .mapo (encM (kI .i64) (vA Antiphonref09Thing.enc) x0.fB.fOf), .blk [.ptr 0 0, .lit (.int .i64 x0.fX.fMost), .lit (.int .i64 x0.fX.fWait), .lit (.bool x0.fX.fBegun), .lit (.int .i64 x0.fX.fNext), .sl (x0.fX.fL.map Antiphonref09Thing.enc) .no, .lit (.int .i64 x0.fX.fLost), .lit (.int .i64 x0.fNow)], .blk [.lit (.int .i64 x1.fKind), .lit (.int .i64 x1.fBy), .lit (.string x1.fS)], .blk [.lit (.pointer none), .lit (.int .i64 0), .lit (.int .i64 0), .lit (.bool false), .lit (.int .i64 0), .sl [] .full, .lit (.int .i64 0), .lit (.int .i64 0)]]⟩ (AWp.reg Try.tyOk hΓ (keep := [37]) (dead := []) (by kernel_rfl) rfl (by simp)) ?_
      refine AWp.cond (b := (notB x0.fX.fBegun)) (by simp) (fun h18 => ?_) (fun h18 => ?_)
      · have hr := cond_t h18 hr
        refine AWp.last ⟨[⟨7, none, .lit (.int .i64 (addI .i64 1000 (bitsOp .and .i64 x1.fBy 31)))⟩, ⟨2, none, .ptr 2 0⟩, ⟨3, none, .ptr 3 0⟩, ⟨4, none, .ptr 4 0⟩], [.blk [.lit (.int .i64 x0.fB.fConfig.fMost), .lit (.int .i64 x0.fB.fConfig.fWait), .lit (.bool x0.fB.fBegun), .lit (.int .i64 x0.fB.fNext), .mp 1, .lit (.int .i64 x0.fB.fLost)], .mapo (encM (kI .i64) (vA Antiphonref09Thing.enc) x0.fB.fOf), .blk [.ptr 0 0, .lit (.int .i64 x0.fX.fMost), .lit (.int .i64 x0.fX.fWait), .lit (.bool x0.fX.fBegun), .lit (.int .i64 x0.fX.fNext), .sl (x0.fX.fL.map Antiphonref09Thing.enc) .no, .lit (.int .i64 x0.fX.fLost), .lit (.int .i64 x0.fNow)], .blk [.lit (.int .i64 x1.fKind), .lit (.int .i64 x1.fBy), .lit (.string x1.fS)], .blk [.lit (.pointer none), .lit (.int .i64 0), .lit (.int .i64 0), .lit (.bool false), .lit (.int .i64 0), .sl [] .full, .lit (.int .i64 0), .lit (.int .i64 0)]]⟩ (AWp.reg Try.tyOk hΓ (keep := [7]) (dead := [37]) (by kernel_rfl) rfl (by simp [h18])) ?_
        obtain rfl := some_inj hr
        exact meet_go () 5 (by simp)
      · have hr := cond_f h18 hr
        refine AWp.skip ?_
        obtain rfl := some_inj hr
        exact meet_go () 5 (by simp)
    · obtain ⟨r1, h19, hr⟩ := bind_some' hr
      refine AWp.then ⟨[⟨8, none, .ptr 5 0⟩, ⟨2, none, .ptr 2 0⟩, ⟨4, none, .ptr 4 0⟩], [.blk [.lit (.int .i64 x0.fB.fConfig.fMost), .lit (.int .i64 x0.fB.fConfig.fWait), .lit (.bool x0.fB.fBegun), .lit (.int .i64 x0.fB.fNext), .mp 1, .lit (.int .i64 x0.fB.fLost)], .mapo (encM (kI .i64) (vA Antiphonref09Thing.enc) x0.fB.fOf), .blk [.ptr 0 0, .lit (.int .i64 x0.fX.fMost), .lit (.int .i64 x0.fX.fWait), .lit (.bool x0.fX.fBegun), .lit (.int .i64 x0.fX.fNext), .sl (x0.fX.fL.map Antiphonref09Thing.enc) .no, .lit (.int .i64 x0.fX.fLost), .lit (.int .i64 x0.fNow)], .blk [.lit (.int .i64 x1.fKind), .lit (.int .i64 x1.fBy), .lit (.string x1.fS)], .blk [.lit (.pointer none), .lit (.int .i64 0), .lit (.int .i64 0), .lit (.bool false), .lit (.int .i64 0), .sl [] .full, .lit (.int .i64 0), .lit (.int .i64 0)], .blk [.lit (.int .i64 v1), .lit (.string r1), .lit (.int .i64 x0.fNow)]]⟩ (AWp.regD Try.mixed Try.tyOk hΓ (keep := [8]) (dead := [7, 3]) [(0, 8), (1, 8), (2, 8), (3, 8), (4, 8), (5, 8), (6, 8)] [(false, []), (false, []), (false, []), (false, []), (false, []), (false, []), (false, []), (true, []), (true, [])] (by kernel_rfl) rfl (by simp [h19])) ?_
      obtain ⟨r2, h20, hr⟩ := bind_some' hr
      refine AWp.then ⟨[⟨9, none, .sl (r2.1.map Antiphonref09Thing.enc) .no⟩, ⟨10, none, .lit (.int .i64 r2.2.1)⟩, ⟨8, none, .ptr 5 0⟩, ⟨2, none, .ptr 2 0⟩, ⟨4, none, .ptr 4 0⟩], [.blk [.lit (.int .i64 r2.2.2.fConfig.fMost), .lit (.int .i64 r2.2.2.fConfig.fWait), .lit (.bool r2.2.2.fBegun), .lit (.int .i64 r2.2.2.fNext), .mp 1, .lit (.int .i64 r2.2.2.fLost)], .mapo (encM (kI .i64) (vA Antiphonref09Thing.enc) r2.2.2.fOf), .blk [.ptr 0 0, .lit (.int .i64 x0.fX.fMost), .lit (.int .i64 x0.fX.fWait), .lit (.bool x0.fX.fBegun), .lit (.int .i64 x0.fX.fNext), .sl (x0.fX.fL.map Antiphonref09Thing.enc) .no, .lit (.int .i64 x0.fX.fLost), .lit (.int .i64 x0.fNow)], .blk [.lit (.int .i64 x1.fKind), .lit (.int .i64 x1.fBy), .lit (.string x1.fS)], .blk [.lit (.pointer none), .lit (.int .i64 0), .lit (.int .i64 0), .lit (.bool false), .lit (.int .i64 0), .sl [] .full, .lit (.int .i64 0), .lit (.int .i64 0)], .blk [.lit (.int .i64 v1), .lit (.string r1), .lit (.int .i64 x0.fNow)]]⟩ (AWp.reg Try.tyOk hΓ (keep := [9, 10]) (dead := []) (by kernel_rfl) rfl (by simp [h20])) ?_
      obtain ⟨r3, h21, hr⟩ := bind_some' hr
      refine AWp.then ⟨[⟨11, none, .ptr 6 0⟩, ⟨12, none, .sl (r3.2.1.map Antiphonref09Thing.enc) .no⟩, ⟨13, none, .lit (.int .i64 r3.2.2)⟩, ⟨9, none, .sl (r2.1.map Antiphonref09Thing.enc) .no⟩, ⟨10, none, .lit (.int .i64 r2.2.1)⟩, ⟨2, none, .ptr 2 0⟩, ⟨4, none, .ptr 4 0⟩], [.blk [.lit (.int .i64 r2.2.2.fConfig.fMost), .lit (.int .i64 r2.2.2.fConfig.fWait), .lit (.bool r2.2.2.fBegun), .lit (.int .i64 r2.2.2.fNext), .mp 1, .lit (.int .i64 r2.2.2.fLost)], .mapo (encM (kI .i64) (vA Antiphonref09Thing.enc) r2.2.2.fOf), .blk [.ptr 0 0, .lit (.int .i64 x0.fX.fMost), .lit (.int .i64 x0.fX.fWait), .lit (.bool x0.fX.fBegun), .lit (.int .i64 x0.fX.fNext), .sl (x0.fX.fL.map Antiphonref09Thing.enc) .no, .lit (.int .i64 x0.fX.fLost), .lit (.int .i64 x0.fNow)], .blk [.lit (.int .i64 x1.fKind), .lit (.int .i64 x1.fBy), .lit (.string x1.fS)], .blk [.lit (.pointer none), .lit (.int .i64 0), .lit (.int .i64 0), .lit (.bool false), .lit (.int .i64 0), .sl [] .full, .lit (.int .i64 0), .lit (.int .i64 0)], .blk [.lit (.int .i64 v1), .lit (.string r1), .lit (.int .i64 x0.fNow)], .blk [.lit (.int .i64 r3.1.fMost), .lit (.int .i64 r3.1.fWait), .lit (.bool r3.1.fBegun), .lit (.int .i64 r3.1.fNext), .sl (r3.1.fL.map Antiphonref09Thing.enc) .no, .lit (.int .i64 r3.1.fLost)]]⟩ (AWp.reg Try.tyOk hΓ (keep := [11, 12, 13]) (dead := [8]) (by kernel_rfl) rfl (by simp [h21])) ?_
      refine AWp.then ⟨[⟨12, none, .sl (r3.2.1.map Antiphonref09Thing.enc) .no⟩, ⟨13, none, .lit (.int .i64 r3.2.2)⟩, ⟨9, none, .sl (r2.1.map Antiphonref09Thing.enc) .no⟩, ⟨10, none, .lit (.int .i64 r2.2.1)⟩, ⟨2, none, .ptr 2 0⟩, ⟨4, none, .ptr 4 0⟩], [.blk [.lit (.int .i64 r2.2.2.fConfig.fMost), .lit (.int .i64 r2.2.2.fConfig.fWait), .lit (.bool r2.2.2.fBegun), .lit (.int .i64 r2.2.2.fNext), .mp 1, .lit (.int .i64 r2.2.2.fLost)], .mapo (encM (kI .i64) (vA Antiphonref09Thing.enc) r2.2.2.fOf), .blk [.ptr 0 0, .lit (.int .i64 r3.1.fMost), .lit (.int .i64 r3.1.fWait), .lit (.bool r3.1.fBegun), .lit (.int .i64 r3.1.fNext), .sl (r3.1.fL.map Antiphonref09Thing.enc) .no, .lit (.int .i64 r3.1.fLost), .lit (.int .i64 x0.fNow)], .blk [.lit (.int .i64 x1.fKind), .lit (.int .i64 x1.fBy), .lit (.string x1.fS)], .blk [.lit (.pointer none), .lit (.int .i64 0), .lit (.int .i64 0), .lit (.bool false), .lit (.int .i64 0), .sl [] .full, .lit (.int .i64 0), .lit (.int .i64 0)], .blk [.lit (.int .i64 v1), .lit (.string r1), .lit (.int .i64 x0.fNow)], .blk [.lit (.int .i64 r3.1.fMost), .lit (.int .i64 r3.1.fWait), .lit (.bool r3.1.fBegun), .lit (.int .i64 r3.1.fNext), .sl (r3.1.fL.map Antiphonref09Thing.enc) .no, .lit (.int .i64 r3.1.fLost)]]⟩ (AWp.reg Try.tyOk hΓ (keep := []) (dead := [11]) (by kernel_rfl) rfl (by simp)) ?_
      obtain ⟨h22, hr⟩ := need_some hr
      refine AWp.then ⟨[⟨5, none, .sl (r3.2.1.map Antiphonref09Thing.enc) .no⟩, ⟨6, none, .lit (.bool (pickB (eqI r2.2.1 r3.2.2) ((gLaw09Same r2.1 r3.2.1).getD dflt) false))⟩, ⟨4, none, .ptr 4 0⟩], [.blk [.lit (.int .i64 r2.2.2.fConfig.fMost), .lit (.int .i64 r2.2.2.fConfig.fWait), .lit (.bool r2.2.2.fBegun), .lit (.int .i64 r2.2.2.fNext), .mp 1, .lit (.int .i64 r2.2.2.fLost)], .mapo (encM (kI .i64) (vA Antiphonref09Thing.enc) r2.2.2.fOf), .blk [.ptr 0 0, .lit (.int .i64 r3.1.fMost), .lit (.int .i64 r3.1.fWait), .lit (.bool r3.1.fBegun), .lit (.int .i64 r3.1.fNext), .sl (r3.1.fL.map Antiphonref09Thing.enc) .no, .lit (.int .i64 r3.1.fLost), .lit (.int .i64 x0.fNow)], .blk [.lit (.int .i64 x1.fKind), .lit (.int .i64 x1.fBy), .lit (.string x1.fS)], .blk [.ptr 0 0, .lit (.int .i64 r3.1.fMost), .lit (.int .i64 r3.1.fWait), .lit (.bool r3.1.fBegun), .lit (.int .i64 r3.1.fNext), .sl (r3.1.fL.map Antiphonref09Thing.enc) .no, .lit (.int .i64 r3.1.fLost), .lit (.int .i64 x0.fNow)], .blk [.lit (.int .i64 v1), .lit (.string r1), .lit (.int .i64 x0.fNow)], .blk [.lit (.int .i64 r3.1.fMost), .lit (.int .i64 r3.1.fWait), .lit (.bool r3.1.fBegun), .lit (.int .i64 r3.1.fNext), .sl (r3.1.fL.map Antiphonref09Thing.enc) .no, .lit (.int .i64 r3.1.fLost)]]⟩ (AWp.regD Try.mixed Try.tyOk hΓ (keep := [5, 6]) (dead := [12, 13, 9, 10, 2]) [(1, 11), (9, 11)] [(false, []), (false, []), (false, []), (false, []), (false, []), (false, []), (false, [71]), (false, [71]), (false, [71]), (false, []), (true, []), (false, []), (false, [])] (by kernel_rfl) rfl (by simp [h22])) ?_
      refine AWp.ret ?_
      obtain rfl := some_inj hr
      refine fin_ret ?_
      simp
  · have hr := cond_f h17 hr
    refine AWp.then ⟨[⟨76, none, .lit (.bool (eqI x1.fKind 2))⟩, ⟨22, none, .lit (.int .i64 x1.fKind)⟩, ⟨2, none, .ptr 2 0⟩, ⟨3, none, .ptr 3 0⟩, ⟨4, none, .ptr 4 0⟩], [.blk [.lit (.int .i64 x0.fB.fConfig.fMost), .lit (.int .i64 x0.fB.fConfig.fWait), .lit (.bool x0.fB.fBegun), .lit (.int .i64 x0.fB.fNext), .mp 1, .lit (.int .i64 x0.fB.fLost)], .mapo (encM (kI .i64) (vA Antiphonref09Thing.enc) x0.fB.fOf), .blk [.ptr 0 0, .lit (.int .i64 x0.fX.fMost), .lit (.int .i64 x0.fX.fWait), .lit (.bool x0.fX.fBegun), .lit (.int .i64 x0.fX.fNext), .sl (x0.fX.fL.map Antiphonref09Thing.enc) .no, .lit (.int .i64 x0.fX.fLost), .lit (.int .i64 x0.fNow)], .blk [.lit (.int .i64 x1.fKind), .lit (.int .i64 x1.fBy), .lit (.string x1.fS)], .blk [.lit (.pointer none), .lit (.int .i64 0), .lit (.int .i64 0), .lit (.bool false), .lit (.int .i64 0), .sl [] .full, .lit (.int .i64 0), .lit (.int .i64 0)]]⟩ (AWp.reg Try.tyOk hΓ (keep := [76]) (dead := [23]) (by kernel_rfl) rfl (by simp [h17])) ?_
    refine AWp.cond (b := (eqI x1.fKind 2)) (by simp) (fun h23 => ?_) (fun h23 => ?_)
    · have hr := cond_t h23 hr
      refine AWp.then ⟨[⟨2, none, .ptr 2 0⟩, ⟨4, none, .ptr 4 0⟩], [.blk [.lit (.int .i64 x0.fB.fConfig.fMost), .lit (.int .i64 x0.fB.fConfig.fWait), .lit (.bool x0.fB.fBegun), .lit (.int .i64 x0.fB.fNext), .mp 1, .lit (.int .i64 x0.fB.fLost)], .mapo (encM (kI .i64) (vA Antiphonref09Thing.enc) x0.fB.fOf), .blk [.ptr 0 0, .lit (.int .i64 x0.fX.fMost), .lit (.int .i64 x0.fX.fWait), .lit (.bool x0.fX.fBegun), .lit (.int .i64 x0.fX.fNext), .sl (x0.fX.fL.map Antiphonref09Thing.enc) .no, .lit (.int .i64 x0.fX.fLost), .lit (.int .i64 (addI .i64 x0.fNow (bitsOp .and .i64 x1.fBy 31)))], .blk [.lit (.int .i64 x1.fKind), .lit (.int .i64 x1.fBy), .lit (.string x1.fS)], .blk [.lit (.pointer none), .lit (.int .i64 0), .lit (.int .i64 0), .lit (.bool false), .lit (.int .i64 0), .sl [] .full, .lit (.int .i64 0), .lit (.int .i64 0)]]⟩ (AWp.reg Try.tyOk hΓ (keep := []) (dead := [76, 22, 3]) (by kernel_rfl) rfl (by simp [h23])) ?_
      obtain ⟨r4, h24, hr⟩ := bind_some' hr
      refine AWp.then ⟨[⟨14, none, .sl (r4.1.map Antiphonref09Thing.enc) .no⟩, ⟨2, none, .ptr 2 0⟩, ⟨4, none, .ptr 4 0⟩], [.blk [.lit (.int .i64 r4.2.fConfig.fMost), .lit (.int .i64 r4.2.fConfig.fWait), .lit (.bool r4.2.fBegun), .lit (.int .i64 r4.2.fNext), .mp 1, .lit (.int .i64 r4.2.fLost)], .mapo (encM (kI .i64) (vA Antiphonref09Thing.enc) r4.2.fOf), .blk [.ptr 0 0, .lit (.int .i64 x0.fX.fMost), .lit (.int .i64 x0.fX.fWait), .lit (.bool x0.fX.fBegun), .lit (.int .i64 x0.fX.fNext), .sl (x0.fX.fL.map Antiphonref09Thing.enc) .no, .lit (.int .i64 x0.fX.fLost), .lit (.int .i64 (addI .i64 x0.fNow (bitsOp .and .i64 x1.fBy 31)))], .blk [.lit (.int .i64 x1.fKind), .lit (.int .i64 x1.fBy), .lit (.string x1.fS)], .blk [.lit (.pointer none), .lit (.int .i64 0), .lit (.int .i64 0), .lit (.bool false), .lit (.int .i64 0), .sl [] .full, .lit (.int .i64 0), .lit (.int .i64 0)]]⟩ (AWp.reg Try.tyOk hΓ (keep := [14]) (dead := []) (by kernel_rfl) rfl (by simp [h24])) ?_
      obtain ⟨r5, h25, hr⟩ := bind_some' hr
      refine AWp.then ⟨[⟨15, none, .ptr 5 0⟩, ⟨16, none, .sl (r5.2.map Antiphonref09Thing.enc) .no⟩, ⟨14, none, .sl (r4.1.map Antiphonref09Thing.enc) .no⟩, ⟨2, none, .ptr 2 0⟩, ⟨4, none, .ptr 4 0⟩], [.blk [.lit (.int .i64 r4.2.fConfig.fMost), .lit (.int .i64 r4.2.fConfig.fWait), .lit (.bool r4.2.fBegun), .lit (.int .i64 r4.2.fNext), .mp 1, .lit (.int .i64 r4.2.fLost)], .mapo (encM (kI .i64) (vA Antiphonref09Thing.enc) r4.2.fOf), .blk [.ptr 0 0, .lit (.int .i64 x0.fX.fMost), .lit (.int .i64 x0.fX.fWait), .lit (.bool x0.fX.fBegun), .lit (.int .i64 x0.fX.fNext), .sl (x0.fX.fL.map Antiphonref09Thing.enc) .no, .lit (.int .i64 x0.fX.fLost), .lit (.int .i64 (addI .i64 x0.fNow (bitsOp .and .i64 x1.fBy 31)))], .blk [.lit (.int .i64 x1.fKind), .lit (.int .i64 x1.fBy), .lit (.string x1.fS)], .blk [.lit (.pointer none), .lit (.int .i64 0), .lit (.int .i64 0), .lit (.bool false), .lit (.int .i64 0), .sl [] .full, .lit (.int .i64 0), .lit (.int .i64 0)], .blk [.lit (.int .i64 r5.1.fMost), .lit (.int .i64 r5.1.fWait), .lit (.bool r5.1.fBegun), .lit (.int .i64 r5.1.fNext), .sl (r5.1.fL.map Antiphonref09Thing.enc) .no, .lit (.int .i64 r5.1.fLost)]]⟩ (AWp.reg Try.tyOk hΓ (keep := [15, 16]) (dead := []) (by kernel_rfl) rfl (by simp [h25])) ?_
      refine AWp.then ⟨[⟨16, none, .sl (r5.2.map Antiphonref09Thing.enc) .no⟩, ⟨14, none, .sl (r4.1.map Antiphonref09Thing.enc) .no⟩, ⟨2, none, .ptr 2 0⟩, ⟨4, none, .ptr 4 0⟩], [.blk [.lit (.int .i64 r4.2.fConfig.fMost), .lit (.int .i64 r4.2.fConfig.fWait), .lit (.bool r4.2.fBegun), .lit (.int .i64 r4.2.fNext), .mp 1, .lit (.int .i64 r4.2.fLost)], .mapo (encM (kI .i64) (vA Antiphonref09Thing.enc) r4.2.fOf), .blk [.ptr 0 0, .lit (.int .i64 r5.1.fMost), .lit (.int .i64 r5.1.fWait), .lit (.bool r5.1.fBegun), .lit (.int .i64 r5.1.fNext), .sl (r5.1.fL.map Antiphonref09Thing.enc) .no, .lit (.int .i64 r5.1.fLost), .lit (.int .i64 (addI .i64 x0.fNow (bitsOp .and .i64 x1.fBy 31)))], .blk [.lit (.int .i64 x1.fKind), .lit (.int .i64 x1.fBy), .lit (.string x1.fS)], .blk [.lit (.pointer none), .lit (.int .i64 0), .lit (.int .i64 0), .lit (.bool false), .lit (.int .i64 0), .sl [] .full, .lit (.int .i64 0), .lit (.int .i64 0)], .blk [.lit (.int .i64 r5.1.fMost), .lit (.int .i64 r5.1.fWait), .lit (.bool r5.1.fBegun), .lit (.int .i64 r5.1.fNext), .sl (r5.1.fL.map Antiphonref09Thing.enc) .no, .lit (.int .i64 r5.1.fLost)]]⟩ (AWp.reg Try.tyOk hΓ (keep := []) (dead := [15]) (by kernel_rfl) rfl (by simp)) ?_
      obtain ⟨r6, h26, hr⟩ := bind_some' hr
      refine AWp.then ⟨[⟨5, none, .sl (r5.2.map Antiphonref09Thing.enc) .no⟩, ⟨6, none, .lit (.bool r6)⟩, ⟨4, none, .ptr 4 0⟩], [.blk [.lit (.int .i64 r4.2.fConfig.fMost), .lit (.int .i64 r4.2.fConfig.fWait), .lit (.bool r4.2.fBegun), .lit (.int .i64 r4.2.fNext), .mp 1, .lit (.int .i64 r4.2.fLost)], .mapo (encM (kI .i64) (vA Antiphonref09Thing.enc) r4.2.fOf), .blk [.ptr 0 0, .lit (.int .i64 r5.1.fMost), .lit (.int .i64 r5.1.fWait), .lit (.bool r5.1.fBegun), .lit (.int .i64 r5.1.fNext), .sl (r5.1.fL.map Antiphonref09Thing.enc) .no, .lit (.int .i64 r5.1.fLost), .lit (.int .i64 (addI .i64 x0.fNow (bitsOp .and .i64 x1.fBy 31)))], .blk [.lit (.int .i64 x1.fKind), .lit (.int .i64 x1.fBy), .lit (.string x1.fS)], .blk [.ptr 0 0, .lit (.int .i64 r5.1.fMost), .lit (.int .i64 r5.1.fWait), .lit (.bool r5.1.fBegun), .lit (.int .i64 r5.1.fNext), .sl (r5.1.fL.map Antiphonref09Thing.enc) .no, .lit (.int .i64 r5.1.fLost), .lit (.int .i64 (addI .i64 x0.fNow (bitsOp .and .i64 x1.fBy 31)))], .blk [.lit (.int .i64 r5.1.fMost), .lit (.int .i64 r5.1.fWait), .lit (.bool r5.1.fBegun), .lit (.int .i64 r5.1.fNext), .sl (r5.1.fL.map Antiphonref09Thing.enc) .no, .lit (.int .i64 r5.1.fLost)]]⟩ (AWp.regD Try.mixed Try.tyOk hΓ (keep := [5, 6]) (dead := [16, 14, 2]) [(1, 6)] [(false, []), (false, []), (false, []), (false, []), (false, []), (true, []), (false, []), (false, [])] (by kernel_rfl) rfl (by simp [h26])) ?_
      refine AWp.ret ?_
      obtain rfl := some_inj hr
      refine fin_ret ?_
      simp
    · have hr := cond_f h23 hr
      refine AWp.then ⟨[⟨105, none, .lit (.bool (eqI x1.fKind 3))⟩, ⟨2, none, .ptr 2 0⟩, ⟨4, none, .ptr 4 0⟩], [.blk [.lit (.int .i64 x0.fB.fConfig.fMost), .lit (.int .i64 x0.fB.fConfig.fWait), .lit (.bool x0.fB.fBegun), .lit (.int .i64 x0.fB.fNext), .mp 1, .lit (.int .i64 x0.fB.fLost)], .mapo (encM (kI .i64) (vA Antiphonref09Thing.enc) x0.fB.fOf), .blk [.ptr 0 0, .lit (.int .i64 x0.fX.fMost), .lit (.int .i64 x0.fX.fWait), .lit (.bool x0.fX.fBegun), .lit (.int .i64 x0.fX.fNext), .sl (x0.fX.fL.map Antiphonref09Thing.enc) .no, .lit (.int .i64 x0.fX.fLost), .lit (.int .i64 x0.fNow)], .blk [.lit (.int .i64 x1.fKind), .lit (.int .i64 x1.fBy), .lit (.string x1.fS)], .blk [.lit (.pointer none), .lit (.int .i64 0), .lit (.int .i64 0), .lit (.bool false), .lit (.int .i64 0), .sl [] .full, .lit (.int .i64 0), .lit (.int .i64 0)]]⟩ (AWp.reg Try.tyOk hΓ (keep := [105]) (dead := [76, 22, 3]) (by kernel_rfl) rfl (by simp [h23])) ?_
      refine AWp.cond (b := (eqI x1.fKind 3)) (by simp) (fun h27 => ?_) (fun h27 => ?_)
      · have hr := cond_t h27 hr
        obtain ⟨r7, h28, hr⟩ := bind_some' hr
        refine AWp.then ⟨[⟨17, none, .sl (r7.1.map Antiphonref09Thing.enc) .no⟩, ⟨2, none, .ptr 2 0⟩, ⟨4, none, .ptr 4 0⟩], [.blk [.lit (.int .i64 r7.2.fConfig.fMost), .lit (.int .i64 r7.2.fConfig.fWait), .lit (.bool r7.2.fBegun), .lit (.int .i64 r7.2.fNext), .mp 1, .lit (.int .i64 r7.2.fLost)], .mapo (encM (kI .i64) (vA Antiphonref09Thing.enc) r7.2.fOf), .blk [.ptr 0 0, .lit (.int .i64 x0.fX.fMost), .lit (.int .i64 x0.fX.fWait), .lit (.bool x0.fX.fBegun), .lit (.int .i64 x0.fX.fNext), .sl (x0.fX.fL.map Antiphonref09Thing.enc) .no, .lit (.int .i64 x0.fX.fLost), .lit (.int .i64 x0.fNow)], .blk [.lit (.int .i64 x1.fKind), .lit (.int .i64 x1.fBy), .lit (.string x1.fS)], .blk [.lit (.pointer none), .lit (.int .i64 0), .lit (.int .i64 0), .lit (.bool false), .lit (.int .i64 0), .sl [] .full, .lit (.int .i64 0), .lit (.int .i64 0)]]⟩ (AWp.reg Try.tyOk hΓ (keep := [17]) (dead := [105]) (by kernel_rfl) rfl (by simp [h27, h28])) ?_
        refine AWp.then ⟨[⟨18, none, .sl [] .full⟩, ⟨17, none, .sl (r7.1.map Antiphonref09Thing.enc) .no⟩, ⟨2, none, .ptr 2 0⟩, ⟨4, none, .ptr 4 0⟩], [.blk [.lit (.int .i64 r7.2.fConfig.fMost), .lit (.int .i64 r7.2.fConfig.fWait), .lit (.bool r7.2.fBegun), .lit (.int .i64 r7.2.fNext), .mp 1, .lit (.int .i64 r7.2.fLost)], .mapo (encM (kI .i64) (vA Antiphonref09Thing.enc) r7.2.fOf), .blk [.ptr 0 0, .lit (.int .i64 x0.fX.fMost), .lit (.int .i64 x0.fX.fWait), .lit (.bool x0.fX.fBegun), .lit (.int .i64 x0.fX.fNext), .sl (x0.fX.fL.map Antiphonref09Thing.enc) .no, .lit (.int .i64 x0.fX.fLost), .lit (.int .i64 x0.fNow)], .blk [.lit (.int .i64 x1.fKind), .lit (.int .i64 x1.fBy), .lit (.string x1.fS)], .blk [.lit (.pointer none), .lit (.int .i64 0), .lit (.int .i64 0), .lit (.bool false), .lit (.int .i64 0), .sl [] .full, .lit (.int .i64 0), .lit (.int .i64 0)]]⟩ (AWp.reg Try.tyOk hΓ (keep := [18]) (dead := []) (by kernel_rfl) rfl (by simp)) ?_
        refine AWp.equip 18 3 (els := []) (by simp) (by simp) ?_
        refine AWp.loopB (fun (s2 : List Antiphonref09Thing × Antiphonref09Buffer) (γ2 : Nat) => ⟨[⟨18, none, .sl (s2.1.map Antiphonref09Thing.enc) (.own 5 (γ2) 3)⟩, ⟨17, none, .sl (r7.1.map Antiphonref09Thing.enc) .no⟩, ⟨2, none, .ptr 2 0⟩, ⟨4, none, .ptr 4 0⟩], [.blk [.lit (.int .i64 r7.2.fConfig.fMost), .lit (.int .i64 r7.2.fConfig.fWait), .lit (.bool r7.2.fBegun), .lit (.int .i64 r7.2.fNext), .mp 1, .lit (.int .i64 r7.2.fLost)], .mapo (encM (kI .i64) (vA Antiphonref09Thing.enc) r7.2.fOf), .blk [.ptr 0 0, .lit (.int .i64 s2.2.fMost), .lit (.int .i64 s2.2.fWait), .lit (.bool s2.2.fBegun), .lit (.int .i64 s2.2.fNext), .sl (s2.2.fL.map Antiphonref09Thing.enc) .no, .lit (.int .i64 s2.2.fLost), .lit (.int .i64 x0.fNow)], .blk [.lit (.int .i64 x1.fKind), .lit (.int .i64 x1.fBy), .lit (.string x1.fS)], .blk [.lit (.pointer none), .lit (.int .i64 0), .lit (.int .i64 0), .lit (.bool false), .lit (.int .i64 0), .sl [] .full, .lit (.int .i64 0), .lit (.int .i64 0)], .room (γ2)]⟩) (fun (v2 : List Antiphonref09Thing × Antiphonref09Buffer) (γ2a : Nat) => ⟨[⟨18, none, .sl (v2.1.map Antiphonref09Thing.enc) (.own 5 (γ2a) 3)⟩, ⟨17, none, .sl (r7.1.map Antiphonref09Thing.enc) .no⟩, ⟨2, none, .ptr 2 0⟩, ⟨4, none, .ptr 4 0⟩], [.blk [.lit (.int .i64 r7.2.fConfig.fMost), .lit (.int .i64 r7.2.fConfig.fWait), .lit (.bool r7.2.fBegun), .lit (.int .i64 r7.2.fNext), .mp 1, .lit (.int .i64 r7.2.fLost)], .mapo (encM (kI .i64) (vA Antiphonref09Thing.enc) r7.2.fOf), .blk [.ptr 0 0, .lit (.int .i64 v2.2.fMost), .lit (.int .i64 v2.2.fWait), .lit (.bool v2.2.fBegun), .lit (.int .i64 v2.2.fNext), .sl (v2.2.fL.map Antiphonref09Thing.enc) .no, .lit (.int .i64 v2.2.fLost), .lit (.int .i64 x0.fNow)], .blk [.lit (.int .i64 x1.fKind), .lit (.int .i64 x1.fBy), .lit (.string x1.fS)], .blk [.lit (.pointer none), .lit (.int .i64 0), .lit (.int .i64 0), .lit (.bool false), .lit (.int .i64 0), .sl [] .full, .lit (.int .i64 0), .lit (.int .i64 0)], .room (γ2a)]⟩) (gLaw09Does.fin x0 x1) hr 0 6 (by simp) (fun s2 f γ2 hr => ?_) (fun v2 γ2a hr => ?_) (fun _ h => h)
        · unfold gLaw09Does.loop2 at hr
          refine AWp.seq ?_
          refine AWp.then ⟨[⟨115, none, .lit (.bool (ltI 0 (lenL s2.2.fL)))⟩, ⟨18, none, .sl (s2.1.map Antiphonref09Thing.enc) (.own 5 (γ2) 3)⟩, ⟨17, none, .sl (r7.1.map Antiphonref09Thing.enc) .no⟩, ⟨2, none, .ptr 2 0⟩, ⟨4, none, .ptr 4 0⟩], [.blk [.lit (.int .i64 r7.2.fConfig.fMost), .lit (.int .i64 r7.2.fConfig.fWait), .lit (.bool r7.2.fBegun), .lit (.int .i64 r7.2.fNext), .mp 1, .lit (.int .i64 r7.2.fLost)], .mapo (encM (kI .i64) (vA Antiphonref09Thing.enc) r7.2.fOf), .blk [.ptr 0 0, .lit (.int .i64 s2.2.fMost), .lit (.int .i64 s2.2.fWait), .lit (.bool s2.2.fBegun), .lit (.int .i64 s2.2.fNext), .sl (s2.2.fL.map Antiphonref09Thing.enc) .no, .lit (.int .i64 s2.2.fLost), .lit (.int .i64 x0.fNow)], .blk [.lit (.int .i64 x1.fKind), .lit (.int .i64 x1.fBy), .lit (.string x1.fS)], .blk [.lit (.pointer none), .lit (.int .i64 0), .lit (.int .i64 0), .lit (.bool false), .lit (.int .i64 0), .sl [] .full, .lit (.int .i64 0), .lit (.int .i64 0)], .room (γ2)]⟩ (AWp.reg Try.tyOk hΓ (keep := [115]) (dead := []) (by kernel_rfl) rfl (by simp)) ?_
          refine AWp.cond (b := (ltI 0 (lenL s2.2.fL))) (by simp) (fun h29 => ?_) (fun h29 => ?_)
          · have hr := cond_t h29 hr
            refine AWp.skip ?_
            refine AWp.block ?_
            obtain ⟨r8, h30, hr⟩ := bind_some' hr
            refine AWp.then ⟨[⟨19, none, .ptr 11 0⟩, ⟨20, none, .sl (r8.2.1.map Antiphonref09Thing.enc) (.own 10 r8.2.2 3)⟩, ⟨18, none, .sl (s2.1.map Antiphonref09Thing.enc) (.own 5 (γ2) 3)⟩, ⟨17, none, .sl (r7.1.map Antiphonref09Thing.enc) .no⟩, ⟨2, none, .ptr 2 0⟩, ⟨4, none, .ptr 4 0⟩], [.blk [.lit (.int .i64 r7.2.fConfig.fMost), .lit (.int .i64 r7.2.fConfig.fWait), .lit (.bool r7.2.fBegun), .lit (.int .i64 r7.2.fNext), .mp 1, .lit (.int .i64 r7.2.fLost)], .mapo (encM (kI .i64) (vA Antiphonref09Thing.enc) r7.2.fOf), .blk [.ptr 0 0, .lit (.int .i64 s2.2.fMost), .lit (.int .i64 s2.2.fWait), .lit (.bool s2.2.fBegun), .lit (.int .i64 s2.2.fNext), .sl (s2.2.fL.map Antiphonref09Thing.enc) .no, .lit (.int .i64 s2.2.fLost), .lit (.int .i64 x0.fNow)], .blk [.lit (.int .i64 x1.fKind), .lit (.int .i64 x1.fBy), .lit (.string x1.fS)], .blk [.lit (.pointer none), .lit (.int .i64 0), .lit (.int .i64 0), .lit (.bool false), .lit (.int .i64 0), .sl [] .full, .lit (.int .i64 0), .lit (.int .i64 0)], .room (γ2), .dead, .dead, .dead, .dead, .room r8.2.2, .blk [.lit (.int .i64 r8.1.fMost), .lit (.int .i64 r8.1.fWait), .lit (.bool r8.1.fBegun), .lit (.int .i64 r8.1.fNext), .sl (r8.1.fL.map Antiphonref09Thing.enc) .no, .lit (.int .i64 r8.1.fLost)]]⟩ (AWp.reg Try.tyOk hΓ (keep := [19, 20]) (dead := [115]) (by kernel_rfl) rfl (by simp [h29, h30])) ?_
            refine AWp.then ⟨[⟨20, none, .sl (r8.2.1.map Antiphonref09Thing.enc) (.own 10 r8.2.2 3)⟩, ⟨18, none, .sl (s2.1.map Antiphonref09Thing.enc) (.own 5 (γ2) 3)⟩, ⟨17, none, .sl (r7.1.map Antiphonref09Thing.enc) .no⟩, ⟨2, none, .ptr 2 0⟩, ⟨4, none, .ptr 4 0⟩], [.blk [.lit (.int .i64 r7.2.fConfig.fMost), .lit (.int .i64 r7.2.fConfig.fWait), .lit (.bool r7.2.fBegun), .lit (.int .i64 r7.2.fNext), .mp 1, .lit (.int .i64 r7.2.fLost)], .mapo (encM (kI .i64) (vA Antiphonref09Thing.enc) r7.2.fOf), .blk [.ptr 0 0, .lit (.int .i64 r8.1.fMost), .lit (.int .i64 r8.1.fWait), .lit (.bool r8.1.fBegun), .lit (.int .i64 r8.1.fNext), .sl (r8.1.fL.map Antiphonref09Thing.enc) .no, .lit (.int .i64 r8.1.fLost), .lit (.int .i64 x0.fNow)], .blk [.lit (.int .i64 x1.fKind), .lit (.int .i64 x1.fBy), .lit (.string x1.fS)], .blk [.lit (.pointer none), .lit (.int .i64 0), .lit (.int .i64 0), .lit (.bool false), .lit (.int .i64 0), .sl [] .full, .lit (.int .i64 0), .lit (.int .i64 0)], .room (γ2), .dead, .dead, .dead, .dead, .room r8.2.2, .blk [.lit (.int .i64 r8.1.fMost), .lit (.int .i64 r8.1.fWait), .lit (.bool r8.1.fBegun), .lit (.int .i64 r8.1.fNext), .sl (r8.1.fL.map Antiphonref09Thing.enc) .no, .lit (.int .i64 r8.1.fLost)]]⟩ (AWp.reg Try.tyOk hΓ (keep := []) (dead := [19]) (by kernel_rfl) rfl (by simp)) ?_
            obtain ⟨h31, hr⟩ := need_some hr
            refine AWp.last ⟨[⟨18, none, .sl ((appL s2.1 r8.2.1).map Antiphonref09Thing.enc) (.own 5 (γ2 + 1) 3)⟩, ⟨17, none, .sl (r7.1.map Antiphonref09Thing.enc) .no⟩, ⟨2, none, .ptr 2 0⟩, ⟨4, none, .ptr 4 0⟩], [.blk [.lit (.int .i64 r7.2.fConfig.fMost), .lit (.int .i64 r7.2.fConfig.fWait), .lit (.bool r7.2.fBegun), .lit (.int .i64 r7.2.fNext), .mp 1, .lit (.int .i64 r7.2.fLost)], .mapo (encM (kI .i64) (vA Antiphonref09Thing.enc) r7.2.fOf), .blk [.ptr 0 0, .lit (.int .i64 r8.1.fMost), .lit (.int .i64 r8.1.fWait), .lit (.bool r8.1.fBegun), .lit (.int .i64 r8.1.fNext), .sl (r8.1.fL.map Antiphonref09Thing.enc) .no, .lit (.int .i64 r8.1.fLost), .lit (.int .i64 x0.fNow)], .blk [.lit (.int .i64 x1.fKind), .lit (.int .i64 x1.fBy), .lit (.string x1.fS)], .blk [.lit (.pointer none), .lit (.int .i64 0), .lit (.int .i64 0), .lit (.bool false), .lit (.int .i64 0), .sl [] .full, .lit (.int .i64 0), .lit (.int .i64 0)], .room (γ2 + 1), .dead, .dead, .dead, .dead, .room r8.2.2, .blk [.lit (.int .i64 r8.1.fMost), .lit (.int .i64 r8.1.fWait), .lit (.bool r8.1.fBegun), .lit (.int .i64 r8.1.fNext), .sl (r8.1.fL.map Antiphonref09Thing.enc) .no, .lit (.int .i64 r8.1.fLost)]]⟩ (AWp.reg Try.tyOk hΓ (keep := [18]) (dead := [20]) (by kernel_rfl) rfl (by simp [h31])) ?_
            obtain rfl := some_inj hr
            exact round_go (γ2 + 1) 6 (by simp)
          · have hr := cond_f h29 hr
            refine AWp.exit ?_
            obtain rfl := some_inj hr
            exact round_out (γ2) 6 (by simp)
        · obtain ⟨r9, h32, hr⟩ := bind_some' hr
          refine AWp.then ⟨[⟨5, none, .sl (v2.1.map Antiphonref09Thing.enc) (.own 5 (γ2a) 3)⟩, ⟨6, none, .lit (.bool r9)⟩, ⟨4, none, .ptr 4 0⟩], [.blk [.lit (.int .i64 r7.2.fConfig.fMost), .lit (.int .i64 r7.2.fConfig.fWait), .lit (.bool r7.2.fBegun), .lit (.int .i64 r7.2.fNext), .mp 1, .lit (.int .i64 r7.2.fLost)], .mapo (encM (kI .i64) (vA Antiphonref09Thing.enc) r7.2.fOf), .blk [.ptr 0 0, .lit (.int .i64 v2.2.fMost), .lit (.int .i64 v2.2.fWait), .lit (.bool v2.2.fBegun), .lit (.int .i64 v2.2.fNext), .sl (v2.2.fL.map Antiphonref09Thing.enc) .no, .lit (.int .i64 v2.2.fLost), .lit (.int .i64 x0.fNow)], .blk [.lit (.int .i64 x1.fKind), .lit (.int .i64 x1.fBy), .lit (.string x1.fS)], .blk [.ptr 0 0, .lit (.int .i64 v2.2.fMost), .lit (.int .i64 v2.2.fWait), .lit (.bool v2.2.fBegun), .lit (.int .i64 v2.2.fNext), .sl (v2.2.fL.map Antiphonref09Thing.enc) .no, .lit (.int .i64 v2.2.fLost), .lit (.int .i64 x0.fNow)], .room (γ2a)]⟩ (AWp.regD Try.mixed Try.tyOk hΓ (keep := [5, 6]) (dead := [18, 17, 2]) [(1, 6)] [(false, []), (false, []), (false, []), (false, []), (false, []), (true, []), (false, []), (false, [])] (by kernel_rfl) rfl (by simp [h32])) ?_
          refine AWp.ret ?_
          obtain rfl := some_inj hr
          refine fin_ret ?_
          simp
      · have hr := cond_f h27 hr
        refine AWp.skip ?_
        refine AWp.then ⟨[⟨5, none, .sl [] .full⟩, ⟨6, none, .lit (.bool true)⟩, ⟨4, none, .ptr 4 0⟩], [.blk [.lit (.int .i64 x0.fB.fConfig.fMost), .lit (.int .i64 x0.fB.fConfig.fWait), .lit (.bool x0.fB.fBegun), .lit (.int .i64 x0.fB.fNext), .mp 1, .lit (.int .i64 x0.fB.fLost)], .mapo (encM (kI .i64) (vA Antiphonref09Thing.enc) x0.fB.fOf), .blk [.ptr 0 0, .lit (.int .i64 x0.fX.fMost), .lit (.int .i64 x0.fX.fWait), .lit (.bool x0.fX.fBegun), .lit (.int .i64 x0.fX.fNext), .sl (x0.fX.fL.map Antiphonref09Thing.enc) .no, .lit (.int .i64 x0.fX.fLost), .lit (.int .i64 x0.fNow)], .blk [.lit (.int .i64 x1.fKind), .lit (.int .i64 x1.fBy), .lit (.string x1.fS)], .blk [.ptr 0 0, .lit (.int .i64 x0.fX.fMost), .lit (.int .i64 x0.fX.fWait), .lit (.bool x0.fX.fBegun), .lit (.int .i64 x0.fX.fNext), .sl (x0.fX.fL.map Antiphonref09Thing.enc) .no, .lit (.int .i64 x0.fX.fLost), .lit (.int .i64 x0.fNow)]]⟩ (AWp.reg Try.tyOk hΓ (keep := [5, 6]) (dead := [105, 2]) (by kernel_rfl) rfl (by simp [h27])) ?_
        refine AWp.ret ?_
        obtain rfl := some_inj hr
        refine fin_ret ?_
        simp

@[simp] noncomputable def gLaw09Does.S : Sp
  | [.agg e0, .agg e1], M => match nthE e0 0 with
    | some (.ptr i0 0) => (match M[i0]? with
    | some (.blk c0) => (match nthE c0 4 with
    | some (.mp i1) => (match M[i1]? with
    | some (.mapo c1) => some { av := .tup [.agg [.ptr i0 0, .lit (.int .i64 (((gLaw09Does (Antiphonlaw09State.dec e0 (ReorderBuffer.dec c0 (decM dkI (dvA Antiphonref09Thing.dec) c1))) (Antiphonlaw09Act.dec e1)).getD dflt).1.fX.fMost)), .lit (.int .i64 (((gLaw09Does (Antiphonlaw09State.dec e0 (ReorderBuffer.dec c0 (decM dkI (dvA Antiphonref09Thing.dec) c1))) (Antiphonlaw09Act.dec e1)).getD dflt).1.fX.fWait)), .lit (.bool (((gLaw09Does (Antiphonlaw09State.dec e0 (ReorderBuffer.dec c0 (decM dkI (dvA Antiphonref09Thing.dec) c1))) (Antiphonlaw09Act.dec e1)).getD dflt).1.fX.fBegun)), .lit (.int .i64 (((gLaw09Does (Antiphonlaw09State.dec e0 (ReorderBuffer.dec c0 (decM dkI (dvA Antiphonref09Thing.dec) c1))) (Antiphonlaw09Act.dec e1)).getD dflt).1.fX.fNext)), .sl ((((gLaw09Does (Antiphonlaw09State.dec e0 (ReorderBuffer.dec c0 (decM dkI (dvA Antiphonref09Thing.dec) c1))) (Antiphonlaw09Act.dec e1)).getD dflt).1.fX.fL).map Antiphonref09Thing.enc) .no, .lit (.int .i64 (((gLaw09Does (Antiphonlaw09State.dec e0 (ReorderBuffer.dec c0 (decM dkI (dvA Antiphonref09Thing.dec) c1))) (Antiphonlaw09Act.dec e1)).getD dflt).1.fX.fLost)), .lit (.int .i64 (((gLaw09Does (Antiphonlaw09State.dec e0 (ReorderBuffer.dec c0 (decM dkI (dvA Antiphonref09Thing.dec) c1))) (Antiphonlaw09Act.dec e1)).getD dflt).1.fNow))], .sl ((((gLaw09Does (Antiphonlaw09State.dec e0 (ReorderBuffer.dec c0 (decM dkI (dvA Antiphonref09Thing.dec) c1))) (Antiphonlaw09Act.dec e1)).getD dflt).2.1).map Antiphonref09Thing.enc) .no, .lit (.bool (((gLaw09Does (Antiphonlaw09State.dec e0 (ReorderBuffer.dec c0 (decM dkI (dvA Antiphonref09Thing.dec) c1))) (Antiphonlaw09Act.dec e1)).getD dflt).2.2))], M := some ((M.set i0 (.blk [.lit (.int .i64 (((gLaw09Does (Antiphonlaw09State.dec e0 (ReorderBuffer.dec c0 (decM dkI (dvA Antiphonref09Thing.dec) c1))) (Antiphonlaw09Act.dec e1)).getD dflt).1.fB.fConfig.fMost)), .lit (.int .i64 (((gLaw09Does (Antiphonlaw09State.dec e0 (ReorderBuffer.dec c0 (decM dkI (dvA Antiphonref09Thing.dec) c1))) (Antiphonlaw09Act.dec e1)).getD dflt).1.fB.fConfig.fWait)), .lit (.bool (((gLaw09Does (Antiphonlaw09State.dec e0 (ReorderBuffer.dec c0 (decM dkI (dvA Antiphonref09Thing.dec) c1))) (Antiphonlaw09Act.dec e1)).getD dflt).1.fB.fBegun)), .lit (.int .i64 (((gLaw09Does (Antiphonlaw09State.dec e0 (ReorderBuffer.dec c0 (decM dkI (dvA Antiphonref09Thing.dec) c1))) (Antiphonlaw09Act.dec e1)).getD dflt).1.fB.fNext)), .mp i1, .lit (.int .i64 (((gLaw09Does (Antiphonlaw09State.dec e0 (ReorderBuffer.dec c0 (decM dkI (dvA Antiphonref09Thing.dec) c1))) (Antiphonlaw09Act.dec e1)).getD dflt).1.fB.fLost))])).set i1 (.mapo (encM (kI .i64) (vA Antiphonref09Thing.enc) (((gLaw09Does (Antiphonlaw09State.dec e0 (ReorderBuffer.dec c0 (decM dkI (dvA Antiphonref09Thing.dec) c1))) (Antiphonlaw09Act.dec e1)).getD dflt).1.fB.fOf)))), obl := WeakL e0 (Antiphonlaw09State.enc (Antiphonlaw09State.dec e0 (ReorderBuffer.dec c0 (decM dkI (dvA Antiphonref09Thing.dec) c1))) i0) ∧ WeakL e1 (Antiphonlaw09Act.enc (Antiphonlaw09Act.dec e1)) ∧ c0 = ReorderBuffer.enc ((Antiphonlaw09State.dec e0 (ReorderBuffer.dec c0 (decM dkI (dvA Antiphonref09Thing.dec) c1))).fB) i1 ∧ c1 = encM (kI .i64) (vA Antiphonref09Thing.enc) ((Antiphonlaw09State.dec e0 (ReorderBuffer.dec c0 (decM dkI (dvA Antiphonref09Thing.dec) c1))).fB.fOf) ∧ (gLaw09Does (Antiphonlaw09State.dec e0 (ReorderBuffer.dec c0 (decM dkI (dvA Antiphonref09Thing.dec) c1))) (Antiphonlaw09Act.dec e1)).isSome = true ∧ i0 ≠ i1 }
    | _ => none)
    | _ => none)
    | _ => none)
    | _ => none
  | _, _ => none

set_option maxHeartbeats 1000000 in
theorem gLaw09Does.ok : SpecOk Try.prog 15 gLaw09Does.S := by
  intro l M out h
  unfold gLaw09Does.S at h
  split at h
  · rename_i e0 e1
    split at h
    case h_2 => cases h
    rename_i i0 he0
    split at h
    case h_2 => cases h
    rename_i c0 hM0
    split at h
    case h_2 => cases h
    rename_i i1 he1
    split at h
    case h_2 => cases h
    rename_i c1 hM1
    cases h
    refine callOk_of fun ho => ?_
    obtain ⟨ox0, ox1, oc0, oc1, hs, hne0⟩ := ho
    generalize (Antiphonlaw09State.dec e0 (ReorderBuffer.dec c0 (decM dkI (dvA Antiphonref09Thing.dec) c1))) = x0 at *
    generalize (Antiphonlaw09Act.dec e1) = x1 at *
    subst oc0
    subst oc1
    obtain ⟨r, hr⟩ := Option.isSome_iff_exists.1 hs
    simp only [hr, Option.getD_some]
    have q := call_frame (M := M) [i0, i1] (gLaw09Does.can x0 x1 r hr) (by simp [hne0]) rfl (by intro k i hk; (cases k with | zero => (simp at hk; subst hk; simp [hM0, into]) | succ k => ((cases k with | zero => (simp at hk; subst hk; simp [hM1]) | succ k => (simp at hk)))))
    exact callOk_conv q trivial (by simp [into]; exact ⟨ox0, ox1⟩) (by simp [frameOut, gLaw09Does.out, into]) (by simp [frameOut, gLaw09Does.out, into])
  · cases h
end Go.Proofs
