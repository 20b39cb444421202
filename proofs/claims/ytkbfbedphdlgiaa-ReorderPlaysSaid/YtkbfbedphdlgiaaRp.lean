/- That these functions compute what their plain functions do. No condition. -/
import Derived.Test.YtkbfbedphdlgiaaRpD
import Derived.Test.YtkbfbedphdlgiaaTy
namespace Go.Proofs
open Go.Ab
@[simp] def gRef09Run.out (_x0 : Antiphonref09Buffer) (r : Antiphonref09Buffer × List Antiphonref09Thing × Nat) : Out := { av := .tup [.agg [.lit (.int .i64 r.1.fMost), .lit (.int .i64 r.1.fWait), .lit (.bool r.1.fBegun), .lit (.int .i64 r.1.fNext), .sl (r.1.fL.map Antiphonref09Thing.enc) .no, .lit (.int .i64 r.1.fLost)], .sl (r.2.1.map Antiphonref09Thing.enc) (.own 2 r.2.2 3)], M := some [.dead, .dead, .room r.2.2] }
def gRef09Run.fin (x0 : Antiphonref09Buffer) (r : Antiphonref09Buffer × List Antiphonref09Thing × Nat) (σ : St) : Prop := finK (gRef09Run.out x0 r) [] σ.M (resA Try.ty σ.A σ.M Try.f35.results.toList)
set_option maxHeartbeats 4000000 in
set_option maxRecDepth 100000 in
theorem gRef09Run.can (x0 : Antiphonref09Buffer) (r : Antiphonref09Buffer × List Antiphonref09Thing × Nat) (hr : gRef09Run x0 = some r) : CallOk Try.prog 35 [.agg [.lit (.int .i64 x0.fMost), .lit (.int .i64 x0.fWait), .lit (.bool x0.fBegun), .lit (.int .i64 x0.fNext), .sl (x0.fL.map Antiphonref09Thing.enc) .no, .lit (.int .i64 x0.fLost)]] [] (gRef09Run.out x0 r) := by
  unfold gRef09Run at hr
  have hΓ := gamL_nil (P := Try.prog)
  refine call_of_awp Try.tyOk Try.func35 rfl (by kernel_rfl) rfl rfl (by simp) ?_
  intro _ _ _
  refine AWp.then ⟨[⟨1, none, .ptr 0 0⟩, ⟨2, none, .ptr 1 0⟩], [.blk [.lit (.int .i64 x0.fMost), .lit (.int .i64 x0.fWait), .lit (.bool x0.fBegun), .lit (.int .i64 x0.fNext), .sl (x0.fL.map Antiphonref09Thing.enc) .no, .lit (.int .i64 x0.fLost)], .blk [.lit (.int .i64 0), .lit (.int .i64 0), .lit (.bool false), .lit (.int .i64 0), .sl [] .full, .lit (.int .i64 0)]]⟩ (AWp.reg Try.tyOk hΓ (keep := [1, 2]) (dead := [0]) (by kernel_rfl) rfl (by simp)) ?_
  refine AWp.then ⟨[⟨4, none, .sl [] .full⟩, ⟨1, none, .ptr 0 0⟩, ⟨2, none, .ptr 1 0⟩], [.blk [.lit (.int .i64 x0.fMost), .lit (.int .i64 x0.fWait), .lit (.bool x0.fBegun), .lit (.int .i64 x0.fNext), .sl (x0.fL.map Antiphonref09Thing.enc) .no, .lit (.int .i64 x0.fLost)], .blk [.lit (.int .i64 0), .lit (.int .i64 0), .lit (.bool false), .lit (.int .i64 0), .sl [] .full, .lit (.int .i64 0)]]⟩ (AWp.reg Try.tyOk hΓ (keep := [4]) (dead := []) (by kernel_rfl) rfl (by simp)) ?_
  refine AWp.equip 4 3 (els := []) (by simp) (by simp) ?_
  refine AWp.loopB (fun (s1 : Nat × List Antiphonref09Thing × Antiphonref09Buffer) (γ1 : Unit) => ⟨[⟨4, none, .sl (s1.2.1.map Antiphonref09Thing.enc) (.own 2 s1.1 3)⟩, ⟨1, none, .ptr 0 0⟩, ⟨2, none, .ptr 1 0⟩], [.blk [.lit (.int .i64 s1.2.2.fMost), .lit (.int .i64 s1.2.2.fWait), .lit (.bool s1.2.2.fBegun), .lit (.int .i64 s1.2.2.fNext), .sl (s1.2.2.fL.map Antiphonref09Thing.enc) .no, .lit (.int .i64 s1.2.2.fLost)], .blk [.lit (.int .i64 0), .lit (.int .i64 0), .lit (.bool false), .lit (.int .i64 0), .sl [] .full, .lit (.int .i64 0)], .room s1.1]⟩) (fun (v1 : Nat × List Antiphonref09Thing × Antiphonref09Buffer) (γ1a : Unit) => ⟨[⟨4, none, .sl (v1.2.1.map Antiphonref09Thing.enc) (.own 2 v1.1 3)⟩, ⟨1, none, .ptr 0 0⟩, ⟨2, none, .ptr 1 0⟩], [.blk [.lit (.int .i64 v1.2.2.fMost), .lit (.int .i64 v1.2.2.fWait), .lit (.bool v1.2.2.fBegun), .lit (.int .i64 v1.2.2.fNext), .sl (v1.2.2.fL.map Antiphonref09Thing.enc) .no, .lit (.int .i64 v1.2.2.fLost)], .blk [.lit (.int .i64 0), .lit (.int .i64 0), .lit (.bool false), .lit (.int .i64 0), .sl [] .full, .lit (.int .i64 0)], .room v1.1]⟩) (gRef09Run.fin x0) hr () 3 (by simp) (fun s1 f γ1 hr => ?_) (fun v1 γ1a hr => ?_) (fun _ h => h)
  · unfold gRef09Run.loop1 at hr
    refine AWp.seq ?_
    obtain ⟨h6, hr⟩ := need_some hr
    refine AWp.then ⟨[⟨19, none, .lit (.bool (pickB (ltI 0 (lenL s1.2.2.fL)) (eqI ((nthI s1.2.2.fL 0).fAt) s1.2.2.fNext) false))⟩, ⟨4, none, .sl (s1.2.1.map Antiphonref09Thing.enc) (.own 2 s1.1 3)⟩, ⟨1, none, .ptr 0 0⟩, ⟨2, none, .ptr 1 0⟩], [.blk [.lit (.int .i64 s1.2.2.fMost), .lit (.int .i64 s1.2.2.fWait), .lit (.bool s1.2.2.fBegun), .lit (.int .i64 s1.2.2.fNext), .sl (s1.2.2.fL.map Antiphonref09Thing.enc) .no, .lit (.int .i64 s1.2.2.fLost)], .blk [.lit (.int .i64 0), .lit (.int .i64 0), .lit (.bool false), .lit (.int .i64 0), .sl [] .full, .lit (.int .i64 0)], .room s1.1]⟩ (AWp.regD Try.mixed Try.tyOk hΓ (keep := [19]) (dead := []) [] [(false, []), (false, []), (false, []), (false, []), (false, []), (false, [10]), (false, [10]), (false, [10]), (false, [10]), (false, [10]), (false, [10]), (false, [10]), (false, [10]), (false, [])] (by kernel_rfl) rfl (by simp [h6])) ?_
    refine AWp.cond (b := (pickB (ltI 0 (lenL s1.2.2.fL)) (eqI ((nthI s1.2.2.fL 0).fAt) s1.2.2.fNext) false)) (by simp) (fun h7 => ?_) (fun h7 => ?_)
    · have hr := cond_t h7 hr
      refine AWp.skip ?_
      refine AWp.block ?_
      obtain ⟨h8, hr⟩ := need_some hr
      obtain ⟨h9, hr⟩ := need_some hr
      refine AWp.then ⟨[⟨4, none, .sl ((appL s1.2.1 [(nthI s1.2.2.fL 0)]).map Antiphonref09Thing.enc) (.own 2 (s1.1 + 1) 3)⟩, ⟨1, none, .ptr 0 0⟩, ⟨2, none, .ptr 1 0⟩], [.blk [.lit (.int .i64 s1.2.2.fMost), .lit (.int .i64 s1.2.2.fWait), .lit (.bool s1.2.2.fBegun), .lit (.int .i64 s1.2.2.fNext), .sl (s1.2.2.fL.map Antiphonref09Thing.enc) .no, .lit (.int .i64 s1.2.2.fLost)], .blk [.lit (.int .i64 0), .lit (.int .i64 0), .lit (.bool false), .lit (.int .i64 0), .sl [] .full, .lit (.int .i64 0)], .room (s1.1 + 1)]⟩ (AWp.reg Try.tyOk hΓ (keep := [4]) (dead := [19]) (by kernel_rfl) rfl (by simp [h7, h8, h9])) ?_
      obtain ⟨h10, hr⟩ := need_some hr
      refine AWp.then ⟨[⟨4, none, .sl ((appL s1.2.1 [(nthI s1.2.2.fL 0)]).map Antiphonref09Thing.enc) (.own 2 (s1.1 + 1) 3)⟩, ⟨1, none, .ptr 0 0⟩, ⟨2, none, .ptr 1 0⟩], [.blk [.lit (.int .i64 s1.2.2.fMost), .lit (.int .i64 s1.2.2.fWait), .lit (.bool s1.2.2.fBegun), .lit (.int .i64 s1.2.2.fNext), .sl ((cutL s1.2.2.fL 1 (lenL s1.2.2.fL)).map Antiphonref09Thing.enc) .no, .lit (.int .i64 s1.2.2.fLost)], .blk [.lit (.int .i64 0), .lit (.int .i64 0), .lit (.bool false), .lit (.int .i64 0), .sl [] .full, .lit (.int .i64 0)], .room (s1.1 + 1)]⟩ (AWp.reg Try.tyOk hΓ (keep := []) (dead := []) (by kernel_rfl) rfl (by simp [h10])) ?_
      refine AWp.last ⟨[⟨4, none, .sl ((appL s1.2.1 [(nthI s1.2.2.fL 0)]).map Antiphonref09Thing.enc) (.own 2 (s1.1 + 1) 3)⟩, ⟨1, none, .ptr 0 0⟩, ⟨2, none, .ptr 1 0⟩], [.blk [.lit (.int .i64 s1.2.2.fMost), .lit (.int .i64 s1.2.2.fWait), .lit (.bool s1.2.2.fBegun), .lit (.int .i64 (addI .i64 s1.2.2.fNext 1)), .sl ((cutL s1.2.2.fL 1 (lenL s1.2.2.fL)).map Antiphonref09Thing.enc) .no, .lit (.int .i64 s1.2.2.fLost)], .blk [.lit (.int .i64 0), .lit (.int .i64 0), .lit (.bool false), .lit (.int .i64 0), .sl [] .full, .lit (.int .i64 0)], .room (s1.1 + 1)]⟩ (AWp.reg Try.tyOk hΓ (keep := []) (dead := []) (by kernel_rfl) rfl (by simp)) ?_
      obtain rfl := some_inj hr
      exact round_go () 3 (by simp)
    · have hr := cond_f h7 hr
      refine AWp.exit ?_
      obtain rfl := some_inj hr
      exact round_out () 3 (by simp)
  · refine AWp.then ⟨[⟨3, none, .sl (v1.2.1.map Antiphonref09Thing.enc) (.own 2 v1.1 3)⟩, ⟨2, none, .ptr 1 0⟩], [.blk [.lit (.int .i64 v1.2.2.fMost), .lit (.int .i64 v1.2.2.fWait), .lit (.bool v1.2.2.fBegun), .lit (.int .i64 v1.2.2.fNext), .sl (v1.2.2.fL.map Antiphonref09Thing.enc) .no, .lit (.int .i64 v1.2.2.fLost)], .blk [.lit (.int .i64 v1.2.2.fMost), .lit (.int .i64 v1.2.2.fWait), .lit (.bool v1.2.2.fBegun), .lit (.int .i64 v1.2.2.fNext), .sl (v1.2.2.fL.map Antiphonref09Thing.enc) .no, .lit (.int .i64 v1.2.2.fLost)], .room v1.1]⟩ (AWp.reg Try.tyOk hΓ (keep := [3]) (dead := [4, 1]) (by kernel_rfl) rfl (by simp)) ?_
    refine AWp.ret ?_
    obtain rfl := some_inj hr
    refine fin_ret ?_
    simp

@[simp] noncomputable def gRef09Run.S : Sp
  | [.agg e0], M => some { av := .tup [.agg [.lit (.int .i64 (((gRef09Run (Antiphonref09Buffer.dec e0)).getD dflt).1.fMost)), .lit (.int .i64 (((gRef09Run (Antiphonref09Buffer.dec e0)).getD dflt).1.fWait)), .lit (.bool (((gRef09Run (Antiphonref09Buffer.dec e0)).getD dflt).1.fBegun)), .lit (.int .i64 (((gRef09Run (Antiphonref09Buffer.dec e0)).getD dflt).1.fNext)), .sl ((((gRef09Run (Antiphonref09Buffer.dec e0)).getD dflt).1.fL).map Antiphonref09Thing.enc) .no, .lit (.int .i64 (((gRef09Run (Antiphonref09Buffer.dec e0)).getD dflt).1.fLost))], .sl ((((gRef09Run (Antiphonref09Buffer.dec e0)).getD dflt).2.1).map Antiphonref09Thing.enc) (.own (M.length + 2) (((gRef09Run (Antiphonref09Buffer.dec e0)).getD dflt).2.2) 3)], M := some (M ++ [.dead, .dead, .room (((gRef09Run (Antiphonref09Buffer.dec e0)).getD dflt).2.2)]), obl := WeakL e0 (Antiphonref09Buffer.enc (Antiphonref09Buffer.dec e0)) ∧ (gRef09Run (Antiphonref09Buffer.dec e0)).isSome = true }
  | _, _ => none

set_option maxHeartbeats 1000000 in
theorem gRef09Run.ok : SpecOk Try.prog 35 gRef09Run.S := by
  intro l M out h
  unfold gRef09Run.S at h
  split at h
  · rename_i e0
    cases h
    refine callOk_of fun ho => ?_
    obtain ⟨ox0, hs⟩ := ho
    generalize (Antiphonref09Buffer.dec e0) = x0 at *
    obtain ⟨r, hr⟩ := Option.isSome_iff_exists.1 hs
    simp only [hr, Option.getD_some]
    have q := call_frame (M := M) [] (gRef09Run.can x0 r hr) (by simp) rfl (by intro k i hk; simp at hk)
    exact callOk_conv q trivial (by simp; exact ox0) (by simp [frameOut, gRef09Run.out, into]) (by simp [frameOut, gRef09Run.out, into])
  · cases h

@[simp] def gRef09Skip.out (_x0 : Antiphonref09Buffer) (r : Antiphonref09Buffer × List Antiphonref09Thing × Nat) : Out := { av := .tup [.agg [.lit (.int .i64 r.1.fMost), .lit (.int .i64 r.1.fWait), .lit (.bool r.1.fBegun), .lit (.int .i64 r.1.fNext), .sl (r.1.fL.map Antiphonref09Thing.enc) .no, .lit (.int .i64 r.1.fLost)], .sl (r.2.1.map Antiphonref09Thing.enc) (.own 4 r.2.2 3)], M := some [.dead, .dead, .dead, .dead, .room r.2.2] }
def gRef09Skip.fin (x0 : Antiphonref09Buffer) (r : Antiphonref09Buffer × List Antiphonref09Thing × Nat) (σ : St) : Prop := finK (gRef09Skip.out x0 r) [] σ.M (resA Try.ty σ.A σ.M Try.f29.results.toList)
set_option maxHeartbeats 4000000 in
set_option maxRecDepth 100000 in
theorem gRef09Skip.can (x0 : Antiphonref09Buffer) (r : Antiphonref09Buffer × List Antiphonref09Thing × Nat) (hr : gRef09Skip x0 = some r) : CallOk Try.prog 29 [.agg [.lit (.int .i64 x0.fMost), .lit (.int .i64 x0.fWait), .lit (.bool x0.fBegun), .lit (.int .i64 x0.fNext), .sl (x0.fL.map Antiphonref09Thing.enc) .no, .lit (.int .i64 x0.fLost)]] [] (gRef09Skip.out x0 r) := by
  unfold gRef09Skip at hr
  have hΓ := (gamL_cons gRef09Run.ok (gamL_nil) : GamOk Try.prog _)
  refine call_of_awp Try.tyOk Try.func29 rfl (by kernel_rfl) rfl rfl (by simp) ?_
  intro _ _ _
  refine AWp.then ⟨[⟨1, none, .ptr 0 0⟩, ⟨2, none, .ptr 1 0⟩], [.blk [.lit (.int .i64 x0.fMost), .lit (.int .i64 x0.fWait), .lit (.bool x0.fBegun), .lit (.int .i64 x0.fNext), .sl (x0.fL.map Antiphonref09Thing.enc) .no, .lit (.int .i64 x0.fLost)], .blk [.lit (.int .i64 0), .lit (.int .i64 0), .lit (.bool false), .lit (.int .i64 0), .sl [] .full, .lit (.int .i64 0)]]⟩ (AWp.reg Try.tyOk hΓ (keep := [1, 2]) (dead := [0]) (by kernel_rfl) rfl (by simp)) ?_
  obtain ⟨h4, hr⟩ := need_some hr
  refine AWp.then ⟨[⟨1, none, .ptr 0 0⟩, ⟨2, none, .ptr 1 0⟩], [.blk [.lit (.int .i64 x0.fMost), .lit (.int .i64 x0.fWait), .lit (.bool x0.fBegun), .lit (.int .i64 x0.fNext), .sl (x0.fL.map Antiphonref09Thing.enc) .no, .lit (.int .i64 (addI .i64 x0.fLost (subI .i64 ((nthI x0.fL 0).fAt) x0.fNext)))], .blk [.lit (.int .i64 0), .lit (.int .i64 0), .lit (.bool false), .lit (.int .i64 0), .sl [] .full, .lit (.int .i64 0)]]⟩ (AWp.regD Try.mixed Try.tyOk hΓ (keep := []) (dead := []) [] [(false, []), (false, []), (false, []), (false, []), (false, []), (false, []), (false, []), (false, []), (false, []), (false, []), (false, []), (false, []), (true, [])] (by kernel_rfl) rfl (by simp [h4])) ?_
  obtain ⟨h5, hr⟩ := need_some hr
  refine AWp.then ⟨[⟨1, none, .ptr 0 0⟩, ⟨2, none, .ptr 1 0⟩], [.blk [.lit (.int .i64 x0.fMost), .lit (.int .i64 x0.fWait), .lit (.bool x0.fBegun), .lit (.int .i64 ((nthI x0.fL 0).fAt)), .sl (x0.fL.map Antiphonref09Thing.enc) .no, .lit (.int .i64 (addI .i64 x0.fLost (subI .i64 ((nthI x0.fL 0).fAt) x0.fNext)))], .blk [.lit (.int .i64 0), .lit (.int .i64 0), .lit (.bool false), .lit (.int .i64 0), .sl [] .full, .lit (.int .i64 0)]]⟩ (AWp.reg Try.tyOk hΓ (keep := []) (dead := []) (by kernel_rfl) rfl (by simp [h4])) ?_
  obtain ⟨r1, h6, hr⟩ := bind_some' hr
  refine AWp.then ⟨[⟨3, none, .sl (r1.2.1.map Antiphonref09Thing.enc) (.own 4 r1.2.2 3)⟩, ⟨2, none, .ptr 1 0⟩], [.blk [.lit (.int .i64 x0.fMost), .lit (.int .i64 x0.fWait), .lit (.bool x0.fBegun), .lit (.int .i64 ((nthI x0.fL 0).fAt)), .sl (x0.fL.map Antiphonref09Thing.enc) .no, .lit (.int .i64 (addI .i64 x0.fLost (subI .i64 ((nthI x0.fL 0).fAt) x0.fNext)))], .blk [.lit (.int .i64 r1.1.fMost), .lit (.int .i64 r1.1.fWait), .lit (.bool r1.1.fBegun), .lit (.int .i64 r1.1.fNext), .sl (r1.1.fL.map Antiphonref09Thing.enc) .no, .lit (.int .i64 r1.1.fLost)], .dead, .dead, .room r1.2.2]⟩ (AWp.reg Try.tyOk hΓ (keep := [3]) (dead := [1]) (by kernel_rfl) rfl (by simp [h6])) ?_
  refine AWp.ret ?_
  obtain rfl := some_inj hr
  refine fin_ret ?_
  simp

@[simp] noncomputable def gRef09Skip.S : Sp
  | [.agg e0], M => some { av := .tup [.agg [.lit (.int .i64 (((gRef09Skip (Antiphonref09Buffer.dec e0)).getD dflt).1.fMost)), .lit (.int .i64 (((gRef09Skip (Antiphonref09Buffer.dec e0)).getD dflt).1.fWait)), .lit (.bool (((gRef09Skip (Antiphonref09Buffer.dec e0)).getD dflt).1.fBegun)), .lit (.int .i64 (((gRef09Skip (Antiphonref09Buffer.dec e0)).getD dflt).1.fNext)), .sl ((((gRef09Skip (Antiphonref09Buffer.dec e0)).getD dflt).1.fL).map Antiphonref09Thing.enc) .no, .lit (.int .i64 (((gRef09Skip (Antiphonref09Buffer.dec e0)).getD dflt).1.fLost))], .sl ((((gRef09Skip (Antiphonref09Buffer.dec e0)).getD dflt).2.1).map Antiphonref09Thing.enc) (.own (M.length + 4) (((gRef09Skip (Antiphonref09Buffer.dec e0)).getD dflt).2.2) 3)], M := some (M ++ [.dead, .dead, .dead, .dead, .room (((gRef09Skip (Antiphonref09Buffer.dec e0)).getD dflt).2.2)]), obl := WeakL e0 (Antiphonref09Buffer.enc (Antiphonref09Buffer.dec e0)) ∧ (gRef09Skip (Antiphonref09Buffer.dec e0)).isSome = true }
  | _, _ => none

set_option maxHeartbeats 1000000 in
theorem gRef09Skip.ok : SpecOk Try.prog 29 gRef09Skip.S := by
  intro l M out h
  unfold gRef09Skip.S at h
  split at h
  · rename_i e0
    cases h
    refine callOk_of fun ho => ?_
    obtain ⟨ox0, hs⟩ := ho
    generalize (Antiphonref09Buffer.dec e0) = x0 at *
    obtain ⟨r, hr⟩ := Option.isSome_iff_exists.1 hs
    simp only [hr, Option.getD_some]
    have q := call_frame (M := M) [] (gRef09Skip.can x0 r hr) (by simp) rfl (by intro k i hk; simp at hk)
    exact callOk_conv q trivial (by simp; exact ox0) (by simp [frameOut, gRef09Skip.out, into]) (by simp [frameOut, gRef09Skip.out, into])
  · cases h

@[simp] def gRef09With.out (_x0 : List Antiphonref09Thing) (_x1 : Antiphonref09Thing) (r : List Antiphonref09Thing) : Out := { av := .sl (r.map Antiphonref09Thing.enc) .no, M := none }
def gRef09With.fin (x0 : List Antiphonref09Thing) (x1 : Antiphonref09Thing) (r : List Antiphonref09Thing) (σ : St) : Prop := finK (gRef09With.out x0 x1 r) [] σ.M (resA Try.ty σ.A σ.M Try.f34.results.toList)
set_option maxHeartbeats 4000000 in
set_option maxRecDepth 100000 in
theorem gRef09With.can (x0 : List Antiphonref09Thing) (x1 : Antiphonref09Thing) (r : List Antiphonref09Thing) (hr : gRef09With x0 x1 = some r) : CallOk Try.prog 34 [.sl (x0.map Antiphonref09Thing.enc) .no, .agg [.lit (.int .i64 x1.fAt), .lit (.string x1.fText), .lit (.int .i64 x1.fTick)]] [] (gRef09With.out x0 x1 r) := by
  unfold gRef09With at hr
  have hΓ := gamL_nil (P := Try.prog)
  refine call_of_awp Try.tyOk Try.func34 rfl (by kernel_rfl) rfl rfl (by simp) ?_
  intro _ _ _
  refine AWp.then ⟨[⟨3, none, .ptr 0 0⟩, ⟨0, none, .sl (x0.map Antiphonref09Thing.enc) .no⟩], [.blk [.lit (.int .i64 x1.fAt), .lit (.string x1.fText), .lit (.int .i64 x1.fTick)]]⟩ (AWp.reg Try.tyOk hΓ (keep := [3]) (dead := [1]) (by kernel_rfl) rfl (by simp)) ?_
  refine AWp.then ⟨[⟨5, none, .sl [] .full⟩, ⟨3, none, .ptr 0 0⟩, ⟨0, none, .sl (x0.map Antiphonref09Thing.enc) .no⟩], [.blk [.lit (.int .i64 x1.fAt), .lit (.string x1.fText), .lit (.int .i64 x1.fTick)]]⟩ (AWp.reg Try.tyOk hΓ (keep := [5]) (dead := []) (by kernel_rfl) rfl (by simp)) ?_
  refine AWp.then ⟨[⟨6, none, .lit (.bool false)⟩, ⟨5, none, .sl [] .full⟩, ⟨3, none, .ptr 0 0⟩, ⟨0, none, .sl (x0.map Antiphonref09Thing.enc) .no⟩], [.blk [.lit (.int .i64 x1.fAt), .lit (.string x1.fText), .lit (.int .i64 x1.fTick)]]⟩ (AWp.reg Try.tyOk hΓ (keep := [6]) (dead := []) (by kernel_rfl) rfl (by simp)) ?_
  refine AWp.seq ?_
  refine AWp.then ⟨[⟨10, none, .sl (x0.map Antiphonref09Thing.enc) .no⟩, ⟨11, none, .lit (.int .i64 (lenL x0))⟩, ⟨12, none, .lit (.int .i64 0)⟩, ⟨6, none, .lit (.bool false)⟩, ⟨5, none, .sl [] .full⟩, ⟨3, none, .ptr 0 0⟩], [.blk [.lit (.int .i64 x1.fAt), .lit (.string x1.fText), .lit (.int .i64 x1.fTick)]]⟩ (AWp.reg Try.tyOk hΓ (keep := [10, 11, 12]) (dead := [0]) (by kernel_rfl) rfl (by simp)) ?_
  refine AWp.equip 5 3 (els := []) (by simp) (by simp) ?_
  refine AWp.loopE (fun (s1 : Int × Bool × List Antiphonref09Thing) (γ1 : Nat) => ⟨[⟨10, none, .sl (x0.map Antiphonref09Thing.enc) .no⟩, ⟨11, none, .lit (.int .i64 (lenL x0))⟩, ⟨12, none, .lit (.int .i64 s1.1)⟩, ⟨6, none, .lit (.bool s1.2.1)⟩, ⟨5, none, .sl (s1.2.2.map Antiphonref09Thing.enc) (.own 1 (γ1) 3)⟩, ⟨3, none, .ptr 0 0⟩], [.blk [.lit (.int .i64 x1.fAt), .lit (.string x1.fText), .lit (.int .i64 x1.fTick)], .room (γ1)]⟩) (fun (v1 : Bool × List Antiphonref09Thing) (γ1a : Nat) => ⟨[⟨6, none, .lit (.bool v1.1)⟩, ⟨5, none, .sl (v1.2.map Antiphonref09Thing.enc) (.own 1 (γ1a) 3)⟩, ⟨3, none, .ptr 0 0⟩], [.blk [.lit (.int .i64 x1.fAt), .lit (.string x1.fText), .lit (.int .i64 x1.fTick)], .room (γ1a)]⟩) (gRef09With.fin x0 x1) hr 0 2 (by simp) (fun s1 f γ1 hr => ?_) (fun v1 γ1a σ1 m1 hr hc => ?_) (fun _ h => h)
  · unfold gRef09With.loop1 at hr
    refine AWp.then ⟨[⟨13, none, .lit (.bool (ltI s1.1 (lenL x0)))⟩, ⟨10, none, .sl (x0.map Antiphonref09Thing.enc) .no⟩, ⟨11, none, .lit (.int .i64 (lenL x0))⟩, ⟨12, none, .lit (.int .i64 s1.1)⟩, ⟨6, none, .lit (.bool s1.2.1)⟩, ⟨5, none, .sl (s1.2.2.map Antiphonref09Thing.enc) (.own 1 (γ1) 3)⟩, ⟨3, none, .ptr 0 0⟩], [.blk [.lit (.int .i64 x1.fAt), .lit (.string x1.fText), .lit (.int .i64 x1.fTick)], .room (γ1)]⟩ (AWp.reg Try.tyOk hΓ (keep := [13]) (dead := []) (by kernel_rfl) rfl (by simp)) ?_
    refine AWp.seq ?_
    refine AWp.cond (b := (ltI s1.1 (lenL x0))) (by simp) (fun h8 => ?_) (fun h8 => ?_)
    · have hr := cond_t h8 hr
      refine AWp.skip ?_
      refine AWp.seq ?_
      refine AWp.block ?_
      obtain ⟨h9, hr⟩ := need_some hr
      refine AWp.then ⟨[⟨8, none, .ptr 2 0⟩, ⟨10, none, .sl (x0.map Antiphonref09Thing.enc) .no⟩, ⟨11, none, .lit (.int .i64 (lenL x0))⟩, ⟨12, none, .lit (.int .i64 s1.1)⟩, ⟨6, none, .lit (.bool s1.2.1)⟩, ⟨5, none, .sl (s1.2.2.map Antiphonref09Thing.enc) (.own 1 (γ1) 3)⟩, ⟨3, none, .ptr 0 0⟩], [.blk [.lit (.int .i64 x1.fAt), .lit (.string x1.fText), .lit (.int .i64 x1.fTick)], .room (γ1), .blk [.lit (.int .i64 ((nthI x0 s1.1).fAt)), .lit (.string ((nthI x0 s1.1).fText)), .lit (.int .i64 ((nthI x0 s1.1).fTick))]]⟩ (AWp.reg Try.tyOk hΓ (keep := [8]) (dead := [13]) (by kernel_rfl) rfl (by simp [h8, h9])) ?_
      refine AWp.meetF (fun (v2 : Bool × List Antiphonref09Thing) (γ2 : Nat) => ⟨[⟨8, none, .ptr 2 0⟩, ⟨10, none, .sl (x0.map Antiphonref09Thing.enc) .no⟩, ⟨11, none, .lit (.int .i64 (lenL x0))⟩, ⟨12, none, .lit (.int .i64 s1.1)⟩, ⟨6, none, .lit (.bool v2.1)⟩, ⟨5, none, .sl (v2.2.map Antiphonref09Thing.enc) (.own 1 (γ2) 3)⟩, ⟨3, none, .ptr 0 0⟩], [.blk [.lit (.int .i64 x1.fAt), .lit (.string x1.fText), .lit (.int .i64 x1.fTick)], .room (γ2), .blk [.lit (.int .i64 ((nthI x0 s1.1).fAt)), .lit (.string ((nthI x0 s1.1).fText)), .lit (.int .i64 ((nthI x0 s1.1).fTick))]]⟩) (QRr (gRef09With.fin x0 x1)) hr (fun f hr => ?_) (fun v2 γ2 hr => ?_) (fun _ h => QRr_ret h)
      · refine AWp.then ⟨[⟨24, none, .lit (.bool (pickB (notB s1.2.1) (ltI x1.fAt ((nthI x0 s1.1).fAt)) false))⟩, ⟨8, none, .ptr 2 0⟩, ⟨10, none, .sl (x0.map Antiphonref09Thing.enc) .no⟩, ⟨11, none, .lit (.int .i64 (lenL x0))⟩, ⟨12, none, .lit (.int .i64 s1.1)⟩, ⟨6, none, .lit (.bool s1.2.1)⟩, ⟨5, none, .sl (s1.2.2.map Antiphonref09Thing.enc) (.own 1 (γ1) 3)⟩, ⟨3, none, .ptr 0 0⟩], [.blk [.lit (.int .i64 x1.fAt), .lit (.string x1.fText), .lit (.int .i64 x1.fTick)], .room (γ1), .blk [.lit (.int .i64 ((nthI x0 s1.1).fAt)), .lit (.string ((nthI x0 s1.1).fText)), .lit (.int .i64 ((nthI x0 s1.1).fTick))]]⟩ (AWp.reg Try.tyOk hΓ (keep := [24]) (dead := []) (by kernel_rfl) rfl (by simp)) ?_
        refine AWp.cond (b := (pickB (notB s1.2.1) (ltI x1.fAt ((nthI x0 s1.1).fAt)) false)) (by simp) (fun h10 => ?_) (fun h10 => ?_)
        · have hr := cond_t h10 hr
          obtain ⟨h11, hr⟩ := need_some hr
          refine AWp.then ⟨[⟨5, none, .sl ((appL s1.2.2 [x1]).map Antiphonref09Thing.enc) (.own 1 (γ1 + 1) 3)⟩, ⟨8, none, .ptr 2 0⟩, ⟨10, none, .sl (x0.map Antiphonref09Thing.enc) .no⟩, ⟨11, none, .lit (.int .i64 (lenL x0))⟩, ⟨12, none, .lit (.int .i64 s1.1)⟩, ⟨3, none, .ptr 0 0⟩], [.blk [.lit (.int .i64 x1.fAt), .lit (.string x1.fText), .lit (.int .i64 x1.fTick)], .room (γ1 + 1), .blk [.lit (.int .i64 ((nthI x0 s1.1).fAt)), .lit (.string ((nthI x0 s1.1).fText)), .lit (.int .i64 ((nthI x0 s1.1).fTick))]]⟩ (AWp.reg Try.tyOk hΓ (keep := [5]) (dead := [24, 6]) (by kernel_rfl) rfl (by simp [h10, h11])) ?_
          refine AWp.last ⟨[⟨6, none, .lit (.bool true)⟩, ⟨5, none, .sl ((appL s1.2.2 [x1]).map Antiphonref09Thing.enc) (.own 1 (γ1 + 1) 3)⟩, ⟨8, none, .ptr 2 0⟩, ⟨10, none, .sl (x0.map Antiphonref09Thing.enc) .no⟩, ⟨11, none, .lit (.int .i64 (lenL x0))⟩, ⟨12, none, .lit (.int .i64 s1.1)⟩, ⟨3, none, .ptr 0 0⟩], [.blk [.lit (.int .i64 x1.fAt), .lit (.string x1.fText), .lit (.int .i64 x1.fTick)], .room (γ1 + 1), .blk [.lit (.int .i64 ((nthI x0 s1.1).fAt)), .lit (.string ((nthI x0 s1.1).fText)), .lit (.int .i64 ((nthI x0 s1.1).fTick))]]⟩ (AWp.reg Try.tyOk hΓ (keep := [6]) (dead := []) (by kernel_rfl) rfl (by simp)) ?_
          obtain rfl := some_inj hr
          exact meet_go (γ1 + 1) 3 (by simp)
        · have hr := cond_f h10 hr
          refine AWp.skip ?_
          obtain rfl := some_inj hr
          exact meet_go (γ1) 3 (by simp)
      · obtain ⟨h12, hr⟩ := need_some hr
        refine AWp.last ⟨[⟨5, none, .sl ((appL v2.2 [(nthI x0 s1.1)]).map Antiphonref09Thing.enc) (.own 1 (γ2 + 1) 3)⟩, ⟨10, none, .sl (x0.map Antiphonref09Thing.enc) .no⟩, ⟨11, none, .lit (.int .i64 (lenL x0))⟩, ⟨12, none, .lit (.int .i64 s1.1)⟩, ⟨6, none, .lit (.bool v2.1)⟩, ⟨3, none, .ptr 0 0⟩], [.blk [.lit (.int .i64 x1.fAt), .lit (.string x1.fText), .lit (.int .i64 x1.fTick)], .room (γ2 + 1), .blk [.lit (.int .i64 ((nthI x0 s1.1).fAt)), .lit (.string ((nthI x0 s1.1).fText)), .lit (.int .i64 ((nthI x0 s1.1).fTick))]]⟩ (AWp.reg Try.tyOk hΓ (keep := [5]) (dead := [8]) (by kernel_rfl) rfl (by simp [h12])) ?_
        refine AWp.last ⟨[⟨12, none, .lit (.int .i64 (addI .i64 s1.1 1))⟩, ⟨5, none, .sl ((appL v2.2 [(nthI x0 s1.1)]).map Antiphonref09Thing.enc) (.own 1 (γ2 + 1) 3)⟩, ⟨10, none, .sl (x0.map Antiphonref09Thing.enc) .no⟩, ⟨11, none, .lit (.int .i64 (lenL x0))⟩, ⟨6, none, .lit (.bool v2.1)⟩, ⟨3, none, .ptr 0 0⟩], [.blk [.lit (.int .i64 x1.fAt), .lit (.string x1.fText), .lit (.int .i64 x1.fTick)], .room (γ2 + 1), .blk [.lit (.int .i64 ((nthI x0 s1.1).fAt)), .lit (.string ((nthI x0 s1.1).fText)), .lit (.int .i64 ((nthI x0 s1.1).fTick))]]⟩ (AWp.reg Try.tyOk hΓ (keep := [12]) (dead := []) (by kernel_rfl) rfl (by simp)) ?_
        obtain rfl := some_inj hr
        exact round_go (γ2 + 1) 2 (by simp)
    · have hr := cond_f h8 hr
      refine AWp.exit ?_
      obtain rfl := some_inj hr
      exact round_out (γ1) 2 (by simp)
  · refine AWp.conv hc ?_
    refine AWp.meetF (fun (v3 : List Antiphonref09Thing) (γ3 : Nat) => ⟨[⟨5, none, .sl (v3.map Antiphonref09Thing.enc) (.own 1 (γ3) 3)⟩], [.blk [.lit (.int .i64 x1.fAt), .lit (.string x1.fText), .lit (.int .i64 x1.fTick)], .room (γ3)]⟩) (gRef09With.fin x0 x1) hr (fun f hr => ?_) (fun v3 γ3 hr => ?_) (fun _ h => h)
    · refine AWp.then ⟨[⟨35, none, .lit (.bool (notB v1.1))⟩, ⟨5, none, .sl (v1.2.map Antiphonref09Thing.enc) (.own 1 (γ1a) 3)⟩, ⟨3, none, .ptr 0 0⟩], [.blk [.lit (.int .i64 x1.fAt), .lit (.string x1.fText), .lit (.int .i64 x1.fTick)], .room (γ1a)]⟩ (AWp.reg Try.tyOk hΓ (keep := [35]) (dead := [6]) (by kernel_rfl) rfl (by simp)) ?_
      refine AWp.cond (b := (notB v1.1)) (by simp) (fun h13 => ?_) (fun h13 => ?_)
      · have hr := cond_t h13 hr
        obtain ⟨h14, hr⟩ := need_some hr
        refine AWp.last ⟨[⟨5, none, .sl ((appL v1.2 [x1]).map Antiphonref09Thing.enc) (.own 1 (γ1a + 1) 3)⟩], [.blk [.lit (.int .i64 x1.fAt), .lit (.string x1.fText), .lit (.int .i64 x1.fTick)], .room (γ1a + 1)]⟩ (AWp.reg Try.tyOk hΓ (keep := [5]) (dead := [35, 3]) (by kernel_rfl) rfl (by simp [h13, h14])) ?_
        obtain rfl := some_inj hr
        exact meet_go (γ1a + 1) 2 (by simp)
      · have hr := cond_f h13 hr
        refine AWp.skip ?_
        obtain rfl := some_inj hr
        exact meet_go (γ1a) 2 (by simp)
    · refine AWp.then ⟨[⟨4, none, .sl (v3.map Antiphonref09Thing.enc) (.own 1 (γ3) 3)⟩], [.blk [.lit (.int .i64 x1.fAt), .lit (.string x1.fText), .lit (.int .i64 x1.fTick)], .room (γ3)]⟩ (AWp.reg Try.tyOk hΓ (keep := [4]) (dead := [5]) (by kernel_rfl) rfl (by simp)) ?_
      refine AWp.ret ?_
      obtain rfl := some_inj hr
      refine fin_ret ?_
      simp

@[simp] noncomputable def gRef09With.S : Sp
  | [.sl e0 _, .agg e1], _ => some { av := .sl (((gRef09With (e0.map Antiphonref09Thing.dec) (Antiphonref09Thing.dec e1)).getD dflt).map Antiphonref09Thing.enc) .no, M := none, obl := e0 = (e0.map Antiphonref09Thing.dec).map Antiphonref09Thing.enc ∧ WeakL e1 (Antiphonref09Thing.enc (Antiphonref09Thing.dec e1)) ∧ (gRef09With (e0.map Antiphonref09Thing.dec) (Antiphonref09Thing.dec e1)).isSome = true }
  | _, _ => none

set_option maxHeartbeats 1000000 in
theorem gRef09With.ok : SpecOk Try.prog 34 gRef09With.S := by
  intro l M out h
  unfold gRef09With.S at h
  split at h
  · rename_i e0 k0 e1
    cases h
    refine callOk_of fun ho => ?_
    obtain ⟨ox0, ox1, hs⟩ := ho
    generalize (e0.map Antiphonref09Thing.dec) = x0 at *
    generalize (Antiphonref09Thing.dec e1) = x1 at *
    subst ox0
    obtain ⟨r, hr⟩ := Option.isSome_iff_exists.1 hs
    simp only [hr, Option.getD_some]
    have q := call_frame (M := M) [] (gRef09With.can x0 x1 r hr) (by simp) rfl (by intro k i hk; simp at hk)
    exact callOk_conv q trivial (by simp; exact ox1) (by simp [frameOut, gRef09With.out]) (by simp [frameOut, gRef09With.out])
  · cases h

@[simp] def gRef09Put.out (_x0 : Antiphonref09Buffer) (_x1 : Antiphonref09Thing) (r : Antiphonref09Buffer × List Antiphonref09Thing × Int) : Out := { av := .tup [.agg [.lit (.int .i64 r.1.fMost), .lit (.int .i64 r.1.fWait), .lit (.bool r.1.fBegun), .lit (.int .i64 r.1.fNext), .sl (r.1.fL.map Antiphonref09Thing.enc) .no, .lit (.int .i64 r.1.fLost)], .sl (r.2.1.map Antiphonref09Thing.enc) .no, .lit (.int .i64 r.2.2)], M := none }
def gRef09Put.fin (x0 : Antiphonref09Buffer) (x1 : Antiphonref09Thing) (r : Antiphonref09Buffer × List Antiphonref09Thing × Int) (σ : St) : Prop := finK (gRef09Put.out x0 x1 r) [] σ.M (resA Try.ty σ.A σ.M Try.f25.results.toList)
set_option maxHeartbeats 4000000 in
set_option maxRecDepth 100000 in
theorem gRef09Put.can (x0 : Antiphonref09Buffer) (x1 : Antiphonref09Thing) (r : Antiphonref09Buffer × List Antiphonref09Thing × Int) (hr : gRef09Put x0 x1 = some r) : CallOk Try.prog 25 [.agg [.lit (.int .i64 x0.fMost), .lit (.int .i64 x0.fWait), .lit (.bool x0.fBegun), .lit (.int .i64 x0.fNext), .sl (x0.fL.map Antiphonref09Thing.enc) .no, .lit (.int .i64 x0.fLost)], .agg [.lit (.int .i64 x1.fAt), .lit (.string x1.fText), .lit (.int .i64 x1.fTick)]] [] (gRef09Put.out x0 x1 r) := by
  unfold gRef09Put at hr
  have hΓ := (gamL_cons gRef09Skip.ok (gamL_cons gRef09Run.ok (gamL_cons gRef09With.ok (gamL_nil))) : GamOk Try.prog _)
  refine call_of_awp Try.tyOk Try.func25 rfl (by kernel_rfl) rfl rfl (by simp) ?_
  intro _ _ _
  refine AWp.then ⟨[⟨2, none, .ptr 0 0⟩, ⟨3, none, .ptr 1 0⟩, ⟨4, none, .ptr 2 0⟩], [.blk [.lit (.int .i64 x0.fMost), .lit (.int .i64 x0.fWait), .lit (.bool x0.fBegun), .lit (.int .i64 x0.fNext), .sl (x0.fL.map Antiphonref09Thing.enc) .no, .lit (.int .i64 x0.fLost)], .blk [.lit (.int .i64 x1.fAt), .lit (.string x1.fText), .lit (.int .i64 x1.fTick)], .blk [.lit (.int .i64 0), .lit (.int .i64 0), .lit (.bool false), .lit (.int .i64 0), .sl [] .full, .lit (.int .i64 0)]]⟩ (AWp.reg Try.tyOk hΓ (keep := [2, 3, 4]) (dead := [0, 1]) (by kernel_rfl) rfl (by simp)) ?_
  refine AWp.meetF (fun (v1 : Antiphonref09Buffer) (γ1 : Unit) => ⟨[⟨2, none, .ptr 0 0⟩, ⟨3, none, .ptr 1 0⟩, ⟨4, none, .ptr 2 0⟩], [.blk [.lit (.int .i64 v1.fMost), .lit (.int .i64 v1.fWait), .lit (.bool v1.fBegun), .lit (.int .i64 v1.fNext), .sl (v1.fL.map Antiphonref09Thing.enc) .no, .lit (.int .i64 v1.fLost)], .blk [.lit (.int .i64 x1.fAt), .lit (.string x1.fText), .lit (.int .i64 x1.fTick)], .blk [.lit (.int .i64 0), .lit (.int .i64 0), .lit (.bool false), .lit (.int .i64 0), .sl [] .full, .lit (.int .i64 0)]]⟩) (gRef09Put.fin x0 x1) hr (fun f hr => ?_) (fun v1 γ1 hr => ?_) (fun _ h => h)
  · refine AWp.then ⟨[⟨15, none, .lit (.bool (notB x0.fBegun))⟩, ⟨2, none, .ptr 0 0⟩, ⟨3, none, .ptr 1 0⟩, ⟨4, none, .ptr 2 0⟩], [.blk [.lit (.int .i64 x0.fMost), .lit (.int .i64 x0.fWait), .lit (.bool x0.fBegun), .lit (.int .i64 x0.fNext), .sl (x0.fL.map Antiphonref09Thing.enc) .no, .lit (.int .i64 x0.fLost)], .blk [.lit (.int .i64 x1.fAt), .lit (.string x1.fText), .lit (.int .i64 x1.fTick)], .blk [.lit (.int .i64 0), .lit (.int .i64 0), .lit (.bool false), .lit (.int .i64 0), .sl [] .full, .lit (.int .i64 0)]]⟩ (AWp.reg Try.tyOk hΓ (keep := [15]) (dead := []) (by kernel_rfl) rfl (by simp)) ?_
    refine AWp.cond (b := (notB x0.fBegun)) (by simp) (fun h11 => ?_) (fun h11 => ?_)
    · have hr := cond_t h11 hr
      refine AWp.then ⟨[⟨2, none, .ptr 0 0⟩, ⟨3, none, .ptr 1 0⟩, ⟨4, none, .ptr 2 0⟩], [.blk [.lit (.int .i64 x0.fMost), .lit (.int .i64 x0.fWait), .lit (.bool true), .lit (.int .i64 x0.fNext), .sl (x0.fL.map Antiphonref09Thing.enc) .no, .lit (.int .i64 x0.fLost)], .blk [.lit (.int .i64 x1.fAt), .lit (.string x1.fText), .lit (.int .i64 x1.fTick)], .blk [.lit (.int .i64 0), .lit (.int .i64 0), .lit (.bool false), .lit (.int .i64 0), .sl [] .full, .lit (.int .i64 0)]]⟩ (AWp.reg Try.tyOk hΓ (keep := []) (dead := [15]) (by kernel_rfl) rfl (by simp [h11])) ?_
      refine AWp.last ⟨[⟨2, none, .ptr 0 0⟩, ⟨3, none, .ptr 1 0⟩, ⟨4, none, .ptr 2 0⟩], [.blk [.lit (.int .i64 x0.fMost), .lit (.int .i64 x0.fWait), .lit (.bool true), .lit (.int .i64 x1.fAt), .sl (x0.fL.map Antiphonref09Thing.enc) .no, .lit (.int .i64 x0.fLost)], .blk [.lit (.int .i64 x1.fAt), .lit (.string x1.fText), .lit (.int .i64 x1.fTick)], .blk [.lit (.int .i64 0), .lit (.int .i64 0), .lit (.bool false), .lit (.int .i64 0), .sl [] .full, .lit (.int .i64 0)]]⟩ (AWp.reg Try.tyOk hΓ (keep := []) (dead := []) (by kernel_rfl) rfl (by simp)) ?_
      obtain rfl := some_inj hr
      exact meet_go () 3 (by simp)
    · have hr := cond_f h11 hr
      refine AWp.skip ?_
      obtain rfl := some_inj hr
      exact meet_go () 3 (by simp)
  · refine AWp.seq ?_
    refine AWp.then ⟨[⟨24, none, .lit (.bool (ltI x1.fAt v1.fNext))⟩, ⟨2, none, .ptr 0 0⟩, ⟨3, none, .ptr 1 0⟩, ⟨4, none, .ptr 2 0⟩], [.blk [.lit (.int .i64 v1.fMost), .lit (.int .i64 v1.fWait), .lit (.bool v1.fBegun), .lit (.int .i64 v1.fNext), .sl (v1.fL.map Antiphonref09Thing.enc) .no, .lit (.int .i64 v1.fLost)], .blk [.lit (.int .i64 x1.fAt), .lit (.string x1.fText), .lit (.int .i64 x1.fTick)], .blk [.lit (.int .i64 0), .lit (.int .i64 0), .lit (.bool false), .lit (.int .i64 0), .sl [] .full, .lit (.int .i64 0)]]⟩ (AWp.reg Try.tyOk hΓ (keep := [24]) (dead := []) (by kernel_rfl) rfl (by simp)) ?_
    refine AWp.cond (b := (ltI x1.fAt v1.fNext)) (by simp) (fun h12 => ?_) (fun h12 => ?_)
    · have hr := cond_t h12 hr
      refine AWp.then ⟨[⟨5, none, .sl [] .full⟩, ⟨6, none, .lit (.int .i64 13)⟩, ⟨4, none, .ptr 2 0⟩], [.blk [.lit (.int .i64 v1.fMost), .lit (.int .i64 v1.fWait), .lit (.bool v1.fBegun), .lit (.int .i64 v1.fNext), .sl (v1.fL.map Antiphonref09Thing.enc) .no, .lit (.int .i64 v1.fLost)], .blk [.lit (.int .i64 x1.fAt), .lit (.string x1.fText), .lit (.int .i64 x1.fTick)], .blk [.lit (.int .i64 v1.fMost), .lit (.int .i64 v1.fWait), .lit (.bool v1.fBegun), .lit (.int .i64 v1.fNext), .sl (v1.fL.map Antiphonref09Thing.enc) .no, .lit (.int .i64 v1.fLost)]]⟩ (AWp.reg Try.tyOk hΓ (keep := [5, 6]) (dead := [24, 2, 3]) (by kernel_rfl) rfl (by simp [h12])) ?_
      refine AWp.ret ?_
      obtain rfl := some_inj hr
      refine fin_ret ?_
      simp
    · have hr := cond_f h12 hr
      refine AWp.skip ?_
      refine AWp.seq ?_
      refine AWp.then ⟨[⟨27, none, .sl (v1.fL.map Antiphonref09Thing.enc) .no⟩, ⟨28, none, .lit (.int .i64 (lenL v1.fL))⟩, ⟨29, none, .lit (.int .i64 0)⟩, ⟨2, none, .ptr 0 0⟩, ⟨3, none, .ptr 1 0⟩, ⟨4, none, .ptr 2 0⟩], [.blk [.lit (.int .i64 v1.fMost), .lit (.int .i64 v1.fWait), .lit (.bool v1.fBegun), .lit (.int .i64 v1.fNext), .sl (v1.fL.map Antiphonref09Thing.enc) .no, .lit (.int .i64 v1.fLost)], .blk [.lit (.int .i64 x1.fAt), .lit (.string x1.fText), .lit (.int .i64 x1.fTick)], .blk [.lit (.int .i64 0), .lit (.int .i64 0), .lit (.bool false), .lit (.int .i64 0), .sl [] .full, .lit (.int .i64 0)]]⟩ (AWp.reg Try.tyOk hΓ (keep := [27, 28, 29]) (dead := [24]) (by kernel_rfl) rfl (by simp [h12])) ?_
      refine AWp.loopE (fun (s2 : Int) (γ2 : Unit) => ⟨[⟨27, none, .sl (v1.fL.map Antiphonref09Thing.enc) .no⟩, ⟨28, none, .lit (.int .i64 (lenL v1.fL))⟩, ⟨29, none, .lit (.int .i64 s2)⟩, ⟨2, none, .ptr 0 0⟩, ⟨3, none, .ptr 1 0⟩, ⟨4, none, .ptr 2 0⟩], [.blk [.lit (.int .i64 v1.fMost), .lit (.int .i64 v1.fWait), .lit (.bool v1.fBegun), .lit (.int .i64 v1.fNext), .sl (v1.fL.map Antiphonref09Thing.enc) .no, .lit (.int .i64 v1.fLost)], .blk [.lit (.int .i64 x1.fAt), .lit (.string x1.fText), .lit (.int .i64 x1.fTick)], .blk [.lit (.int .i64 0), .lit (.int .i64 0), .lit (.bool false), .lit (.int .i64 0), .sl [] .full, .lit (.int .i64 0)]]⟩) (fun (v2 : Unit) (γ2a : Unit) => ⟨[⟨2, none, .ptr 0 0⟩, ⟨3, none, .ptr 1 0⟩, ⟨4, none, .ptr 2 0⟩], [.blk [.lit (.int .i64 v1.fMost), .lit (.int .i64 v1.fWait), .lit (.bool v1.fBegun), .lit (.int .i64 v1.fNext), .sl (v1.fL.map Antiphonref09Thing.enc) .no, .lit (.int .i64 v1.fLost)], .blk [.lit (.int .i64 x1.fAt), .lit (.string x1.fText), .lit (.int .i64 x1.fTick)], .blk [.lit (.int .i64 0), .lit (.int .i64 0), .lit (.bool false), .lit (.int .i64 0), .sl [] .full, .lit (.int .i64 0)]]⟩) (gRef09Put.fin x0 x1) hr () 3 (by simp) (fun s2 f γ2 hr => ?_) (fun v2 γ2a σ1 m1 hr hc => ?_) (fun _ h => h)
      · unfold gRef09Put.loop2 at hr
        refine AWp.then ⟨[⟨30, none, .lit (.bool (ltI s2 (lenL v1.fL)))⟩, ⟨27, none, .sl (v1.fL.map Antiphonref09Thing.enc) .no⟩, ⟨28, none, .lit (.int .i64 (lenL v1.fL))⟩, ⟨29, none, .lit (.int .i64 s2)⟩, ⟨2, none, .ptr 0 0⟩, ⟨3, none, .ptr 1 0⟩, ⟨4, none, .ptr 2 0⟩], [.blk [.lit (.int .i64 v1.fMost), .lit (.int .i64 v1.fWait), .lit (.bool v1.fBegun), .lit (.int .i64 v1.fNext), .sl (v1.fL.map Antiphonref09Thing.enc) .no, .lit (.int .i64 v1.fLost)], .blk [.lit (.int .i64 x1.fAt), .lit (.string x1.fText), .lit (.int .i64 x1.fTick)], .blk [.lit (.int .i64 0), .lit (.int .i64 0), .lit (.bool false), .lit (.int .i64 0), .sl [] .full, .lit (.int .i64 0)]]⟩ (AWp.reg Try.tyOk hΓ (keep := [30]) (dead := []) (by kernel_rfl) rfl (by simp)) ?_
        refine AWp.seq ?_
        refine AWp.cond (b := (ltI s2 (lenL v1.fL))) (by simp) (fun h13 => ?_) (fun h13 => ?_)
        · have hr := cond_t h13 hr
          refine AWp.skip ?_
          refine AWp.seq ?_
          refine AWp.block ?_
          obtain ⟨h14, hr⟩ := need_some hr
          refine AWp.then ⟨[⟨8, none, .ptr 3 0⟩, ⟨27, none, .sl (v1.fL.map Antiphonref09Thing.enc) .no⟩, ⟨28, none, .lit (.int .i64 (lenL v1.fL))⟩, ⟨29, none, .lit (.int .i64 s2)⟩, ⟨2, none, .ptr 0 0⟩, ⟨3, none, .ptr 1 0⟩, ⟨4, none, .ptr 2 0⟩], [.blk [.lit (.int .i64 v1.fMost), .lit (.int .i64 v1.fWait), .lit (.bool v1.fBegun), .lit (.int .i64 v1.fNext), .sl (v1.fL.map Antiphonref09Thing.enc) .no, .lit (.int .i64 v1.fLost)], .blk [.lit (.int .i64 x1.fAt), .lit (.string x1.fText), .lit (.int .i64 x1.fTick)], .blk [.lit (.int .i64 0), .lit (.int .i64 0), .lit (.bool false), .lit (.int .i64 0), .sl [] .full, .lit (.int .i64 0)], .blk [.lit (.int .i64 ((nthI v1.fL s2).fAt)), .lit (.string ((nthI v1.fL s2).fText)), .lit (.int .i64 ((nthI v1.fL s2).fTick))]]⟩ (AWp.reg Try.tyOk hΓ (keep := [8]) (dead := [30]) (by kernel_rfl) rfl (by simp [h13, h14])) ?_
          refine AWp.then ⟨[⟨37, none, .lit (.bool (eqI ((nthI v1.fL s2).fAt) x1.fAt))⟩, ⟨27, none, .sl (v1.fL.map Antiphonref09Thing.enc) .no⟩, ⟨28, none, .lit (.int .i64 (lenL v1.fL))⟩, ⟨29, none, .lit (.int .i64 s2)⟩, ⟨2, none, .ptr 0 0⟩, ⟨3, none, .ptr 1 0⟩, ⟨4, none, .ptr 2 0⟩], [.blk [.lit (.int .i64 v1.fMost), .lit (.int .i64 v1.fWait), .lit (.bool v1.fBegun), .lit (.int .i64 v1.fNext), .sl (v1.fL.map Antiphonref09Thing.enc) .no, .lit (.int .i64 v1.fLost)], .blk [.lit (.int .i64 x1.fAt), .lit (.string x1.fText), .lit (.int .i64 x1.fTick)], .blk [.lit (.int .i64 0), .lit (.int .i64 0), .lit (.bool false), .lit (.int .i64 0), .sl [] .full, .lit (.int .i64 0)], .blk [.lit (.int .i64 ((nthI v1.fL s2).fAt)), .lit (.string ((nthI v1.fL s2).fText)), .lit (.int .i64 ((nthI v1.fL s2).fTick))]]⟩ (AWp.reg Try.tyOk hΓ (keep := [37]) (dead := [8]) (by kernel_rfl) rfl (by simp)) ?_
          refine AWp.cond (b := (eqI ((nthI v1.fL s2).fAt) x1.fAt)) (by simp) (fun h15 => ?_) (fun h15 => ?_)
          · have hr := cond_t h15 hr
            refine AWp.then ⟨[⟨5, none, .sl [] .full⟩, ⟨6, none, .lit (.int .i64 14)⟩, ⟨4, none, .ptr 2 0⟩], [.blk [.lit (.int .i64 v1.fMost), .lit (.int .i64 v1.fWait), .lit (.bool v1.fBegun), .lit (.int .i64 v1.fNext), .sl (v1.fL.map Antiphonref09Thing.enc) .no, .lit (.int .i64 v1.fLost)], .blk [.lit (.int .i64 x1.fAt), .lit (.string x1.fText), .lit (.int .i64 x1.fTick)], .blk [.lit (.int .i64 v1.fMost), .lit (.int .i64 v1.fWait), .lit (.bool v1.fBegun), .lit (.int .i64 v1.fNext), .sl (v1.fL.map Antiphonref09Thing.enc) .no, .lit (.int .i64 v1.fLost)], .blk [.lit (.int .i64 ((nthI v1.fL s2).fAt)), .lit (.string ((nthI v1.fL s2).fText)), .lit (.int .i64 ((nthI v1.fL s2).fTick))]]⟩ (AWp.reg Try.tyOk hΓ (keep := [5, 6]) (dead := [37, 27, 28, 29, 2, 3]) (by kernel_rfl) rfl (by simp [h15])) ?_
            refine AWp.ret ?_
            obtain rfl := some_inj hr
            refine round_ret ?_
            refine fin_ret ?_
            simp
          · have hr := cond_f h15 hr
            refine AWp.skip ?_
            refine AWp.last ⟨[⟨29, none, .lit (.int .i64 (addI .i64 s2 1))⟩, ⟨27, none, .sl (v1.fL.map Antiphonref09Thing.enc) .no⟩, ⟨28, none, .lit (.int .i64 (lenL v1.fL))⟩, ⟨2, none, .ptr 0 0⟩, ⟨3, none, .ptr 1 0⟩, ⟨4, none, .ptr 2 0⟩], [.blk [.lit (.int .i64 v1.fMost), .lit (.int .i64 v1.fWait), .lit (.bool v1.fBegun), .lit (.int .i64 v1.fNext), .sl (v1.fL.map Antiphonref09Thing.enc) .no, .lit (.int .i64 v1.fLost)], .blk [.lit (.int .i64 x1.fAt), .lit (.string x1.fText), .lit (.int .i64 x1.fTick)], .blk [.lit (.int .i64 0), .lit (.int .i64 0), .lit (.bool false), .lit (.int .i64 0), .sl [] .full, .lit (.int .i64 0)], .blk [.lit (.int .i64 ((nthI v1.fL s2).fAt)), .lit (.string ((nthI v1.fL s2).fText)), .lit (.int .i64 ((nthI v1.fL s2).fTick))]]⟩ (AWp.reg Try.tyOk hΓ (keep := [29]) (dead := [37]) (by kernel_rfl) rfl (by simp [h15])) ?_
            obtain rfl := some_inj hr
            exact round_go () 3 (by simp)
        · have hr := cond_f h13 hr
          refine AWp.exit ?_
          obtain rfl := some_inj hr
          exact round_out () 3 (by simp)
      · refine AWp.conv hc ?_
        obtain ⟨r1, h16, hr⟩ := bind_some' hr
        refine AWp.then ⟨[⟨2, none, .ptr 0 0⟩, ⟨4, none, .ptr 2 0⟩], [.blk [.lit (.int .i64 v1.fMost), .lit (.int .i64 v1.fWait), .lit (.bool v1.fBegun), .lit (.int .i64 v1.fNext), .sl (r1.map Antiphonref09Thing.enc) .no, .lit (.int .i64 v1.fLost)], .blk [.lit (.int .i64 x1.fAt), .lit (.string x1.fText), .lit (.int .i64 x1.fTick)], .blk [.lit (.int .i64 0), .lit (.int .i64 0), .lit (.bool false), .lit (.int .i64 0), .sl [] .full, .lit (.int .i64 0)]]⟩ (AWp.reg Try.tyOk hΓ (keep := []) (dead := [3]) (by kernel_rfl) rfl (by simp [h16])) ?_
        obtain ⟨r2, h17, hr⟩ := bind_some' hr
        refine AWp.then ⟨[⟨9, none, .ptr 6 0⟩, ⟨10, none, .sl (r2.2.1.map Antiphonref09Thing.enc) (.own 5 r2.2.2 3)⟩, ⟨4, none, .ptr 2 0⟩], [.blk [.lit (.int .i64 v1.fMost), .lit (.int .i64 v1.fWait), .lit (.bool v1.fBegun), .lit (.int .i64 v1.fNext), .sl (r1.map Antiphonref09Thing.enc) .no, .lit (.int .i64 v1.fLost)], .blk [.lit (.int .i64 x1.fAt), .lit (.string x1.fText), .lit (.int .i64 x1.fTick)], .blk [.lit (.int .i64 0), .lit (.int .i64 0), .lit (.bool false), .lit (.int .i64 0), .sl [] .full, .lit (.int .i64 0)], .dead, .dead, .room r2.2.2, .blk [.lit (.int .i64 r2.1.fMost), .lit (.int .i64 r2.1.fWait), .lit (.bool r2.1.fBegun), .lit (.int .i64 r2.1.fNext), .sl (r2.1.fL.map Antiphonref09Thing.enc) .no, .lit (.int .i64 r2.1.fLost)]]⟩ (AWp.reg Try.tyOk hΓ (keep := [9, 10]) (dead := [2]) (by kernel_rfl) rfl (by simp [h17])) ?_
        refine AWp.loopB (fun (s3 : List Antiphonref09Thing × Antiphonref09Buffer) (γ3 : Nat) => ⟨[⟨9, none, .ptr 6 0⟩, ⟨10, none, .sl (s3.1.map Antiphonref09Thing.enc) (.own 5 (γ3) 3)⟩, ⟨4, none, .ptr 2 0⟩], [.blk [.lit (.int .i64 v1.fMost), .lit (.int .i64 v1.fWait), .lit (.bool v1.fBegun), .lit (.int .i64 v1.fNext), .sl (r1.map Antiphonref09Thing.enc) .no, .lit (.int .i64 v1.fLost)], .blk [.lit (.int .i64 x1.fAt), .lit (.string x1.fText), .lit (.int .i64 x1.fTick)], .blk [.lit (.int .i64 0), .lit (.int .i64 0), .lit (.bool false), .lit (.int .i64 0), .sl [] .full, .lit (.int .i64 0)], .dead, .dead, .room (γ3), .blk [.lit (.int .i64 s3.2.fMost), .lit (.int .i64 s3.2.fWait), .lit (.bool s3.2.fBegun), .lit (.int .i64 s3.2.fNext), .sl (s3.2.fL.map Antiphonref09Thing.enc) .no, .lit (.int .i64 s3.2.fLost)]]⟩) (fun (v3 : List Antiphonref09Thing × Antiphonref09Buffer) (γ3a : Nat) => ⟨[⟨9, none, .ptr 6 0⟩, ⟨10, none, .sl (v3.1.map Antiphonref09Thing.enc) (.own 5 (γ3a) 3)⟩, ⟨4, none, .ptr 2 0⟩], [.blk [.lit (.int .i64 v1.fMost), .lit (.int .i64 v1.fWait), .lit (.bool v1.fBegun), .lit (.int .i64 v1.fNext), .sl (r1.map Antiphonref09Thing.enc) .no, .lit (.int .i64 v1.fLost)], .blk [.lit (.int .i64 x1.fAt), .lit (.string x1.fText), .lit (.int .i64 x1.fTick)], .blk [.lit (.int .i64 0), .lit (.int .i64 0), .lit (.bool false), .lit (.int .i64 0), .sl [] .full, .lit (.int .i64 0)], .dead, .dead, .room (γ3a), .blk [.lit (.int .i64 v3.2.fMost), .lit (.int .i64 v3.2.fWait), .lit (.bool v3.2.fBegun), .lit (.int .i64 v3.2.fNext), .sl (v3.2.fL.map Antiphonref09Thing.enc) .no, .lit (.int .i64 v3.2.fLost)]]⟩) (gRef09Put.fin x0 x1) hr r2.2.2 7 (by simp) (fun s3 f γ3 hr => ?_) (fun v3 γ3a hr => ?_) (fun _ h => h)
        · unfold gRef09Put.loop3 at hr
          refine AWp.seq ?_
          refine AWp.then ⟨[⟨55, none, .lit (.bool (ltI s3.2.fMost (lenL s3.2.fL)))⟩, ⟨9, none, .ptr 6 0⟩, ⟨10, none, .sl (s3.1.map Antiphonref09Thing.enc) (.own 5 (γ3) 3)⟩, ⟨4, none, .ptr 2 0⟩], [.blk [.lit (.int .i64 v1.fMost), .lit (.int .i64 v1.fWait), .lit (.bool v1.fBegun), .lit (.int .i64 v1.fNext), .sl (r1.map Antiphonref09Thing.enc) .no, .lit (.int .i64 v1.fLost)], .blk [.lit (.int .i64 x1.fAt), .lit (.string x1.fText), .lit (.int .i64 x1.fTick)], .blk [.lit (.int .i64 0), .lit (.int .i64 0), .lit (.bool false), .lit (.int .i64 0), .sl [] .full, .lit (.int .i64 0)], .dead, .dead, .room (γ3), .blk [.lit (.int .i64 s3.2.fMost), .lit (.int .i64 s3.2.fWait), .lit (.bool s3.2.fBegun), .lit (.int .i64 s3.2.fNext), .sl (s3.2.fL.map Antiphonref09Thing.enc) .no, .lit (.int .i64 s3.2.fLost)]]⟩ (AWp.reg Try.tyOk hΓ (keep := [55]) (dead := []) (by kernel_rfl) rfl (by simp)) ?_
          refine AWp.cond (b := (ltI s3.2.fMost (lenL s3.2.fL))) (by simp) (fun h18 => ?_) (fun h18 => ?_)
          · have hr := cond_t h18 hr
            refine AWp.skip ?_
            refine AWp.block ?_
            obtain ⟨r3, h19, hr⟩ := bind_some' hr
            refine AWp.then ⟨[⟨11, none, .ptr 12 0⟩, ⟨12, none, .sl (r3.2.1.map Antiphonref09Thing.enc) (.own 11 r3.2.2 3)⟩, ⟨9, none, .ptr 6 0⟩, ⟨10, none, .sl (s3.1.map Antiphonref09Thing.enc) (.own 5 (γ3) 3)⟩, ⟨4, none, .ptr 2 0⟩], [.blk [.lit (.int .i64 v1.fMost), .lit (.int .i64 v1.fWait), .lit (.bool v1.fBegun), .lit (.int .i64 v1.fNext), .sl (r1.map Antiphonref09Thing.enc) .no, .lit (.int .i64 v1.fLost)], .blk [.lit (.int .i64 x1.fAt), .lit (.string x1.fText), .lit (.int .i64 x1.fTick)], .blk [.lit (.int .i64 0), .lit (.int .i64 0), .lit (.bool false), .lit (.int .i64 0), .sl [] .full, .lit (.int .i64 0)], .dead, .dead, .room (γ3), .blk [.lit (.int .i64 s3.2.fMost), .lit (.int .i64 s3.2.fWait), .lit (.bool s3.2.fBegun), .lit (.int .i64 s3.2.fNext), .sl (s3.2.fL.map Antiphonref09Thing.enc) .no, .lit (.int .i64 s3.2.fLost)], .dead, .dead, .dead, .dead, .room r3.2.2, .blk [.lit (.int .i64 r3.1.fMost), .lit (.int .i64 r3.1.fWait), .lit (.bool r3.1.fBegun), .lit (.int .i64 r3.1.fNext), .sl (r3.1.fL.map Antiphonref09Thing.enc) .no, .lit (.int .i64 r3.1.fLost)]]⟩ (AWp.reg Try.tyOk hΓ (keep := [11, 12]) (dead := [55]) (by kernel_rfl) rfl (by simp [h18, h19])) ?_
            refine AWp.then ⟨[⟨12, none, .sl (r3.2.1.map Antiphonref09Thing.enc) (.own 11 r3.2.2 3)⟩, ⟨9, none, .ptr 6 0⟩, ⟨10, none, .sl (s3.1.map Antiphonref09Thing.enc) (.own 5 (γ3) 3)⟩, ⟨4, none, .ptr 2 0⟩], [.blk [.lit (.int .i64 v1.fMost), .lit (.int .i64 v1.fWait), .lit (.bool v1.fBegun), .lit (.int .i64 v1.fNext), .sl (r1.map Antiphonref09Thing.enc) .no, .lit (.int .i64 v1.fLost)], .blk [.lit (.int .i64 x1.fAt), .lit (.string x1.fText), .lit (.int .i64 x1.fTick)], .blk [.lit (.int .i64 0), .lit (.int .i64 0), .lit (.bool false), .lit (.int .i64 0), .sl [] .full, .lit (.int .i64 0)], .dead, .dead, .room (γ3), .blk [.lit (.int .i64 r3.1.fMost), .lit (.int .i64 r3.1.fWait), .lit (.bool r3.1.fBegun), .lit (.int .i64 r3.1.fNext), .sl (r3.1.fL.map Antiphonref09Thing.enc) .no, .lit (.int .i64 r3.1.fLost)], .dead, .dead, .dead, .dead, .room r3.2.2, .blk [.lit (.int .i64 r3.1.fMost), .lit (.int .i64 r3.1.fWait), .lit (.bool r3.1.fBegun), .lit (.int .i64 r3.1.fNext), .sl (r3.1.fL.map Antiphonref09Thing.enc) .no, .lit (.int .i64 r3.1.fLost)]]⟩ (AWp.reg Try.tyOk hΓ (keep := []) (dead := [11]) (by kernel_rfl) rfl (by simp)) ?_
            obtain ⟨h20, hr⟩ := need_some hr
            refine AWp.last ⟨[⟨10, none, .sl ((appL s3.1 r3.2.1).map Antiphonref09Thing.enc) (.own 5 (γ3 + 1) 3)⟩, ⟨9, none, .ptr 6 0⟩, ⟨4, none, .ptr 2 0⟩], [.blk [.lit (.int .i64 v1.fMost), .lit (.int .i64 v1.fWait), .lit (.bool v1.fBegun), .lit (.int .i64 v1.fNext), .sl (r1.map Antiphonref09Thing.enc) .no, .lit (.int .i64 v1.fLost)], .blk [.lit (.int .i64 x1.fAt), .lit (.string x1.fText), .lit (.int .i64 x1.fTick)], .blk [.lit (.int .i64 0), .lit (.int .i64 0), .lit (.bool false), .lit (.int .i64 0), .sl [] .full, .lit (.int .i64 0)], .dead, .dead, .room (γ3 + 1), .blk [.lit (.int .i64 r3.1.fMost), .lit (.int .i64 r3.1.fWait), .lit (.bool r3.1.fBegun), .lit (.int .i64 r3.1.fNext), .sl (r3.1.fL.map Antiphonref09Thing.enc) .no, .lit (.int .i64 r3.1.fLost)], .dead, .dead, .dead, .dead, .room r3.2.2, .blk [.lit (.int .i64 r3.1.fMost), .lit (.int .i64 r3.1.fWait), .lit (.bool r3.1.fBegun), .lit (.int .i64 r3.1.fNext), .sl (r3.1.fL.map Antiphonref09Thing.enc) .no, .lit (.int .i64 r3.1.fLost)]]⟩ (AWp.reg Try.tyOk hΓ (keep := [10]) (dead := [12]) (by kernel_rfl) rfl (by simp [h20])) ?_
            obtain rfl := some_inj hr
            exact round_go (γ3 + 1) 7 (by simp)
          · have hr := cond_f h18 hr
            refine AWp.exit ?_
            obtain rfl := some_inj hr
            exact round_out (γ3) 7 (by simp)
        · refine AWp.then ⟨[⟨5, none, .sl (v3.1.map Antiphonref09Thing.enc) (.own 5 (γ3a) 3)⟩, ⟨6, none, .lit (.int .i64 0)⟩, ⟨4, none, .ptr 2 0⟩], [.blk [.lit (.int .i64 v1.fMost), .lit (.int .i64 v1.fWait), .lit (.bool v1.fBegun), .lit (.int .i64 v1.fNext), .sl (r1.map Antiphonref09Thing.enc) .no, .lit (.int .i64 v1.fLost)], .blk [.lit (.int .i64 x1.fAt), .lit (.string x1.fText), .lit (.int .i64 x1.fTick)], .blk [.lit (.int .i64 v3.2.fMost), .lit (.int .i64 v3.2.fWait), .lit (.bool v3.2.fBegun), .lit (.int .i64 v3.2.fNext), .sl (v3.2.fL.map Antiphonref09Thing.enc) .no, .lit (.int .i64 v3.2.fLost)], .dead, .dead, .room (γ3a), .blk [.lit (.int .i64 v3.2.fMost), .lit (.int .i64 v3.2.fWait), .lit (.bool v3.2.fBegun), .lit (.int .i64 v3.2.fNext), .sl (v3.2.fL.map Antiphonref09Thing.enc) .no, .lit (.int .i64 v3.2.fLost)]]⟩ (AWp.reg Try.tyOk hΓ (keep := [5, 6]) (dead := [9, 10]) (by kernel_rfl) rfl (by simp)) ?_
          refine AWp.ret ?_
          obtain rfl := some_inj hr
          refine fin_ret ?_
          simp

@[simp] noncomputable def gRef09Put.S : Sp
  | [.agg e0, .agg e1], _ => some { av := .tup [.agg [.lit (.int .i64 (((gRef09Put (Antiphonref09Buffer.dec e0) (Antiphonref09Thing.dec e1)).getD dflt).1.fMost)), .lit (.int .i64 (((gRef09Put (Antiphonref09Buffer.dec e0) (Antiphonref09Thing.dec e1)).getD dflt).1.fWait)), .lit (.bool (((gRef09Put (Antiphonref09Buffer.dec e0) (Antiphonref09Thing.dec e1)).getD dflt).1.fBegun)), .lit (.int .i64 (((gRef09Put (Antiphonref09Buffer.dec e0) (Antiphonref09Thing.dec e1)).getD dflt).1.fNext)), .sl ((((gRef09Put (Antiphonref09Buffer.dec e0) (Antiphonref09Thing.dec e1)).getD dflt).1.fL).map Antiphonref09Thing.enc) .no, .lit (.int .i64 (((gRef09Put (Antiphonref09Buffer.dec e0) (Antiphonref09Thing.dec e1)).getD dflt).1.fLost))], .sl ((((gRef09Put (Antiphonref09Buffer.dec e0) (Antiphonref09Thing.dec e1)).getD dflt).2.1).map Antiphonref09Thing.enc) .no, .lit (.int .i64 (((gRef09Put (Antiphonref09Buffer.dec e0) (Antiphonref09Thing.dec e1)).getD dflt).2.2))], M := none, obl := WeakL e0 (Antiphonref09Buffer.enc (Antiphonref09Buffer.dec e0)) ∧ WeakL e1 (Antiphonref09Thing.enc (Antiphonref09Thing.dec e1)) ∧ (gRef09Put (Antiphonref09Buffer.dec e0) (Antiphonref09Thing.dec e1)).isSome = true }
  | _, _ => none

set_option maxHeartbeats 1000000 in
theorem gRef09Put.ok : SpecOk Try.prog 25 gRef09Put.S := by
  intro l M out h
  unfold gRef09Put.S at h
  split at h
  · rename_i e0 e1
    cases h
    refine callOk_of fun ho => ?_
    obtain ⟨ox0, ox1, hs⟩ := ho
    generalize (Antiphonref09Buffer.dec e0) = x0 at *
    generalize (Antiphonref09Thing.dec e1) = x1 at *
    obtain ⟨r, hr⟩ := Option.isSome_iff_exists.1 hs
    simp only [hr, Option.getD_some]
    have q := call_frame (M := M) [] (gRef09Put.can x0 x1 r hr) (by simp) rfl (by intro k i hk; simp at hk)
    exact callOk_conv q trivial (by simp; exact ⟨ox0, ox1⟩) (by simp [frameOut, gRef09Put.out]) (by simp [frameOut, gRef09Put.out])
  · cases h

@[simp] def gRef09Tick.out (_x0 : Antiphonref09Buffer) (_x1 : Int) (r : Antiphonref09Buffer × List Antiphonref09Thing) : Out := { av := .tup [.agg [.lit (.int .i64 r.1.fMost), .lit (.int .i64 r.1.fWait), .lit (.bool r.1.fBegun), .lit (.int .i64 r.1.fNext), .sl (r.1.fL.map Antiphonref09Thing.enc) .no, .lit (.int .i64 r.1.fLost)], .sl (r.2.map Antiphonref09Thing.enc) .no], M := none }
def gRef09Tick.fin (x0 : Antiphonref09Buffer) (x1 : Int) (r : Antiphonref09Buffer × List Antiphonref09Thing) (σ : St) : Prop := finK (gRef09Tick.out x0 x1 r) [] σ.M (resA Try.ty σ.A σ.M Try.f28.results.toList)
set_option maxHeartbeats 4000000 in
set_option maxRecDepth 100000 in
theorem gRef09Tick.can (x0 : Antiphonref09Buffer) (x1 : Int) (r : Antiphonref09Buffer × List Antiphonref09Thing) (hr : gRef09Tick x0 x1 = some r) : CallOk Try.prog 28 [.agg [.lit (.int .i64 x0.fMost), .lit (.int .i64 x0.fWait), .lit (.bool x0.fBegun), .lit (.int .i64 x0.fNext), .sl (x0.fL.map Antiphonref09Thing.enc) .no, .lit (.int .i64 x0.fLost)], .lit (.int .i64 x1)] [] (gRef09Tick.out x0 x1 r) := by
  unfold gRef09Tick at hr
  have hΓ := (gamL_cons gRef09Skip.ok (gamL_nil) : GamOk Try.prog _)
  refine call_of_awp Try.tyOk Try.func28 rfl (by kernel_rfl) rfl rfl (by simp) ?_
  intro _ _ _
  refine AWp.then ⟨[⟨2, none, .ptr 0 0⟩, ⟨4, none, .ptr 1 0⟩, ⟨1, none, .lit (.int .i64 x1)⟩], [.blk [.lit (.int .i64 x0.fMost), .lit (.int .i64 x0.fWait), .lit (.bool x0.fBegun), .lit (.int .i64 x0.fNext), .sl (x0.fL.map Antiphonref09Thing.enc) .no, .lit (.int .i64 x0.fLost)], .blk [.lit (.int .i64 0), .lit (.int .i64 0), .lit (.bool false), .lit (.int .i64 0), .sl [] .full, .lit (.int .i64 0)]]⟩ (AWp.reg Try.tyOk hΓ (keep := [2, 4]) (dead := [0]) (by kernel_rfl) rfl (by simp)) ?_
  refine AWp.then ⟨[⟨6, none, .sl [] .full⟩, ⟨2, none, .ptr 0 0⟩, ⟨4, none, .ptr 1 0⟩, ⟨1, none, .lit (.int .i64 x1)⟩], [.blk [.lit (.int .i64 x0.fMost), .lit (.int .i64 x0.fWait), .lit (.bool x0.fBegun), .lit (.int .i64 x0.fNext), .sl (x0.fL.map Antiphonref09Thing.enc) .no, .lit (.int .i64 x0.fLost)], .blk [.lit (.int .i64 0), .lit (.int .i64 0), .lit (.bool false), .lit (.int .i64 0), .sl [] .full, .lit (.int .i64 0)]]⟩ (AWp.reg Try.tyOk hΓ (keep := [6]) (dead := []) (by kernel_rfl) rfl (by simp)) ?_
  refine AWp.equip 6 3 (els := []) (by simp) (by simp) ?_
  refine AWp.loopB (fun (s1 : List Antiphonref09Thing × Antiphonref09Buffer) (γ1 : Nat) => ⟨[⟨6, none, .sl (s1.1.map Antiphonref09Thing.enc) (.own 2 (γ1) 3)⟩, ⟨2, none, .ptr 0 0⟩, ⟨4, none, .ptr 1 0⟩, ⟨1, none, .lit (.int .i64 x1)⟩], [.blk [.lit (.int .i64 s1.2.fMost), .lit (.int .i64 s1.2.fWait), .lit (.bool s1.2.fBegun), .lit (.int .i64 s1.2.fNext), .sl (s1.2.fL.map Antiphonref09Thing.enc) .no, .lit (.int .i64 s1.2.fLost)], .blk [.lit (.int .i64 0), .lit (.int .i64 0), .lit (.bool false), .lit (.int .i64 0), .sl [] .full, .lit (.int .i64 0)], .room (γ1)]⟩) (fun (v1 : List Antiphonref09Thing × Antiphonref09Buffer) (γ1a : Nat) => ⟨[⟨6, none, .sl (v1.1.map Antiphonref09Thing.enc) (.own 2 (γ1a) 3)⟩, ⟨2, none, .ptr 0 0⟩, ⟨4, none, .ptr 1 0⟩], [.blk [.lit (.int .i64 v1.2.fMost), .lit (.int .i64 v1.2.fWait), .lit (.bool v1.2.fBegun), .lit (.int .i64 v1.2.fNext), .sl (v1.2.fL.map Antiphonref09Thing.enc) .no, .lit (.int .i64 v1.2.fLost)], .blk [.lit (.int .i64 0), .lit (.int .i64 0), .lit (.bool false), .lit (.int .i64 0), .sl [] .full, .lit (.int .i64 0)], .room (γ1a)]⟩) (gRef09Tick.fin x0 x1) hr 0 3 (by simp) (fun s1 f γ1 hr => ?_) (fun v1 γ1a hr => ?_) (fun _ h => h)
  · unfold gRef09Tick.loop1 at hr
    refine AWp.seq ?_
    obtain ⟨h5, hr⟩ := need_some hr
    refine AWp.then ⟨[⟨25, none, .lit (.bool (pickB (ltI 0 (lenL s1.2.fL)) (leqI s1.2.fWait (subI .i64 x1 ((nthI s1.2.fL 0).fTick))) false))⟩, ⟨6, none, .sl (s1.1.map Antiphonref09Thing.enc) (.own 2 (γ1) 3)⟩, ⟨2, none, .ptr 0 0⟩, ⟨4, none, .ptr 1 0⟩, ⟨1, none, .lit (.int .i64 x1)⟩], [.blk [.lit (.int .i64 s1.2.fMost), .lit (.int .i64 s1.2.fWait), .lit (.bool s1.2.fBegun), .lit (.int .i64 s1.2.fNext), .sl (s1.2.fL.map Antiphonref09Thing.enc) .no, .lit (.int .i64 s1.2.fLost)], .blk [.lit (.int .i64 0), .lit (.int .i64 0), .lit (.bool false), .lit (.int .i64 0), .sl [] .full, .lit (.int .i64 0)], .room (γ1)]⟩ (AWp.regD Try.mixed Try.tyOk hΓ (keep := [25]) (dead := []) [] [(false, []), (false, []), (false, []), (false, []), (false, []), (false, [14]), (false, [14]), (false, [14]), (false, [14]), (false, [14]), (false, [14]), (false, [14]), (false, [14]), (false, [14]), (false, [14]), (false, [])] (by kernel_rfl) rfl (by simp [h5])) ?_
    refine AWp.cond (b := (pickB (ltI 0 (lenL s1.2.fL)) (leqI s1.2.fWait (subI .i64 x1 ((nthI s1.2.fL 0).fTick))) false)) (by simp) (fun h6 => ?_) (fun h6 => ?_)
    · have hr := cond_t h6 hr
      refine AWp.skip ?_
      refine AWp.block ?_
      obtain ⟨r1, h7, hr⟩ := bind_some' hr
      refine AWp.then ⟨[⟨7, none, .ptr 8 0⟩, ⟨8, none, .sl (r1.2.1.map Antiphonref09Thing.enc) (.own 7 r1.2.2 3)⟩, ⟨6, none, .sl (s1.1.map Antiphonref09Thing.enc) (.own 2 (γ1) 3)⟩, ⟨2, none, .ptr 0 0⟩, ⟨4, none, .ptr 1 0⟩, ⟨1, none, .lit (.int .i64 x1)⟩], [.blk [.lit (.int .i64 s1.2.fMost), .lit (.int .i64 s1.2.fWait), .lit (.bool s1.2.fBegun), .lit (.int .i64 s1.2.fNext), .sl (s1.2.fL.map Antiphonref09Thing.enc) .no, .lit (.int .i64 s1.2.fLost)], .blk [.lit (.int .i64 0), .lit (.int .i64 0), .lit (.bool false), .lit (.int .i64 0), .sl [] .full, .lit (.int .i64 0)], .room (γ1), .dead, .dead, .dead, .dead, .room r1.2.2, .blk [.lit (.int .i64 r1.1.fMost), .lit (.int .i64 r1.1.fWait), .lit (.bool r1.1.fBegun), .lit (.int .i64 r1.1.fNext), .sl (r1.1.fL.map Antiphonref09Thing.enc) .no, .lit (.int .i64 r1.1.fLost)]]⟩ (AWp.reg Try.tyOk hΓ (keep := [7, 8]) (dead := [25]) (by kernel_rfl) rfl (by simp [h6, h7])) ?_
      refine AWp.then ⟨[⟨8, none, .sl (r1.2.1.map Antiphonref09Thing.enc) (.own 7 r1.2.2 3)⟩, ⟨6, none, .sl (s1.1.map Antiphonref09Thing.enc) (.own 2 (γ1) 3)⟩, ⟨2, none, .ptr 0 0⟩, ⟨4, none, .ptr 1 0⟩, ⟨1, none, .lit (.int .i64 x1)⟩], [.blk [.lit (.int .i64 r1.1.fMost), .lit (.int .i64 r1.1.fWait), .lit (.bool r1.1.fBegun), .lit (.int .i64 r1.1.fNext), .sl (r1.1.fL.map Antiphonref09Thing.enc) .no, .lit (.int .i64 r1.1.fLost)], .blk [.lit (.int .i64 0), .lit (.int .i64 0), .lit (.bool false), .lit (.int .i64 0), .sl [] .full, .lit (.int .i64 0)], .room (γ1), .dead, .dead, .dead, .dead, .room r1.2.2, .blk [.lit (.int .i64 r1.1.fMost), .lit (.int .i64 r1.1.fWait), .lit (.bool r1.1.fBegun), .lit (.int .i64 r1.1.fNext), .sl (r1.1.fL.map Antiphonref09Thing.enc) .no, .lit (.int .i64 r1.1.fLost)]]⟩ (AWp.reg Try.tyOk hΓ (keep := []) (dead := [7]) (by kernel_rfl) rfl (by simp)) ?_
      obtain ⟨h8, hr⟩ := need_some hr
      refine AWp.last ⟨[⟨6, none, .sl ((appL s1.1 r1.2.1).map Antiphonref09Thing.enc) (.own 2 (γ1 + 1) 3)⟩, ⟨2, none, .ptr 0 0⟩, ⟨4, none, .ptr 1 0⟩, ⟨1, none, .lit (.int .i64 x1)⟩], [.blk [.lit (.int .i64 r1.1.fMost), .lit (.int .i64 r1.1.fWait), .lit (.bool r1.1.fBegun), .lit (.int .i64 r1.1.fNext), .sl (r1.1.fL.map Antiphonref09Thing.enc) .no, .lit (.int .i64 r1.1.fLost)], .blk [.lit (.int .i64 0), .lit (.int .i64 0), .lit (.bool false), .lit (.int .i64 0), .sl [] .full, .lit (.int .i64 0)], .room (γ1 + 1), .dead, .dead, .dead, .dead, .room r1.2.2, .blk [.lit (.int .i64 r1.1.fMost), .lit (.int .i64 r1.1.fWait), .lit (.bool r1.1.fBegun), .lit (.int .i64 r1.1.fNext), .sl (r1.1.fL.map Antiphonref09Thing.enc) .no, .lit (.int .i64 r1.1.fLost)]]⟩ (AWp.reg Try.tyOk hΓ (keep := [6]) (dead := [8]) (by kernel_rfl) rfl (by simp [h8])) ?_
      obtain rfl := some_inj hr
      exact round_go (γ1 + 1) 3 (by simp)
    · have hr := cond_f h6 hr
      refine AWp.exit ?_
      obtain rfl := some_inj hr
      exact round_out (γ1) 3 (by simp)
  · refine AWp.then ⟨[⟨5, none, .sl (v1.1.map Antiphonref09Thing.enc) (.own 2 (γ1a) 3)⟩, ⟨4, none, .ptr 1 0⟩], [.blk [.lit (.int .i64 v1.2.fMost), .lit (.int .i64 v1.2.fWait), .lit (.bool v1.2.fBegun), .lit (.int .i64 v1.2.fNext), .sl (v1.2.fL.map Antiphonref09Thing.enc) .no, .lit (.int .i64 v1.2.fLost)], .blk [.lit (.int .i64 v1.2.fMost), .lit (.int .i64 v1.2.fWait), .lit (.bool v1.2.fBegun), .lit (.int .i64 v1.2.fNext), .sl (v1.2.fL.map Antiphonref09Thing.enc) .no, .lit (.int .i64 v1.2.fLost)], .room (γ1a)]⟩ (AWp.reg Try.tyOk hΓ (keep := [5]) (dead := [6, 2]) (by kernel_rfl) rfl (by simp)) ?_
    refine AWp.ret ?_
    obtain rfl := some_inj hr
    refine fin_ret ?_
    simp

@[simp] noncomputable def gRef09Tick.S : Sp
  | [.agg e0, .lit (.int .i64 x1)], _ => some { av := .tup [.agg [.lit (.int .i64 (((gRef09Tick (Antiphonref09Buffer.dec e0) x1).getD dflt).1.fMost)), .lit (.int .i64 (((gRef09Tick (Antiphonref09Buffer.dec e0) x1).getD dflt).1.fWait)), .lit (.bool (((gRef09Tick (Antiphonref09Buffer.dec e0) x1).getD dflt).1.fBegun)), .lit (.int .i64 (((gRef09Tick (Antiphonref09Buffer.dec e0) x1).getD dflt).1.fNext)), .sl ((((gRef09Tick (Antiphonref09Buffer.dec e0) x1).getD dflt).1.fL).map Antiphonref09Thing.enc) .no, .lit (.int .i64 (((gRef09Tick (Antiphonref09Buffer.dec e0) x1).getD dflt).1.fLost))], .sl ((((gRef09Tick (Antiphonref09Buffer.dec e0) x1).getD dflt).2).map Antiphonref09Thing.enc) .no], M := none, obl := WeakL e0 (Antiphonref09Buffer.enc (Antiphonref09Buffer.dec e0)) ∧ (gRef09Tick (Antiphonref09Buffer.dec e0) x1).isSome = true }
  | _, _ => none

set_option maxHeartbeats 1000000 in
theorem gRef09Tick.ok : SpecOk Try.prog 28 gRef09Tick.S := by
  intro l M out h
  unfold gRef09Tick.S at h
  split at h
  · rename_i e0 x1
    cases h
    refine callOk_of fun ho => ?_
    obtain ⟨ox0, hs⟩ := ho
    generalize (Antiphonref09Buffer.dec e0) = x0 at *
    obtain ⟨r, hr⟩ := Option.isSome_iff_exists.1 hs
    simp only [hr, Option.getD_some]
    have q := call_frame (M := M) [] (gRef09Tick.can x0 x1 r hr) (by simp) rfl (by intro k i hk; simp at hk)
    exact callOk_conv q trivial (by simp; exact ox0) (by simp [frameOut, gRef09Tick.out]) (by simp [frameOut, gRef09Tick.out])
  · cases h

@[simp] def gRef09Missing.out (_x0 : Antiphonref09Buffer) (_x1 : Int) (r : List Int) : Out := { av := .sl (r.map (eNum .i64)) .no, M := none }
def gRef09Missing.fin (x0 : Antiphonref09Buffer) (x1 : Int) (r : List Int) (σ : St) : Prop := finK (gRef09Missing.out x0 x1 r) [] σ.M (resA Try.ty σ.A σ.M Try.f18.results.toList)
set_option maxHeartbeats 4000000 in
set_option maxRecDepth 100000 in
theorem gRef09Missing.can (x0 : Antiphonref09Buffer) (x1 : Int) (r : List Int) (hr : gRef09Missing x0 x1 = some r) : CallOk Try.prog 18 [.agg [.lit (.int .i64 x0.fMost), .lit (.int .i64 x0.fWait), .lit (.bool x0.fBegun), .lit (.int .i64 x0.fNext), .sl (x0.fL.map Antiphonref09Thing.enc) .no, .lit (.int .i64 x0.fLost)], .lit (.int .i64 x1)] [] (gRef09Missing.out x0 x1 r) := by
  unfold gRef09Missing at hr
  have hΓ := gamL_nil (P := Try.prog)
  refine call_of_awp Try.tyOk Try.func18 rfl (by kernel_rfl) rfl rfl (by simp) ?_
  intro _ _ _
  refine AWp.then ⟨[⟨2, none, .ptr 0 0⟩, ⟨1, none, .lit (.int .i64 x1)⟩], [.blk [.lit (.int .i64 x0.fMost), .lit (.int .i64 x0.fWait), .lit (.bool x0.fBegun), .lit (.int .i64 x0.fNext), .sl (x0.fL.map Antiphonref09Thing.enc) .no, .lit (.int .i64 x0.fLost)]]⟩ (AWp.reg Try.tyOk hΓ (keep := [2]) (dead := [0]) (by kernel_rfl) rfl (by simp)) ?_
  refine AWp.then ⟨[⟨5, none, .sl [] .full⟩, ⟨2, none, .ptr 0 0⟩, ⟨1, none, .lit (.int .i64 x1)⟩], [.blk [.lit (.int .i64 x0.fMost), .lit (.int .i64 x0.fWait), .lit (.bool x0.fBegun), .lit (.int .i64 x0.fNext), .sl (x0.fL.map Antiphonref09Thing.enc) .no, .lit (.int .i64 x0.fLost)]]⟩ (AWp.reg Try.tyOk hΓ (keep := [5]) (dead := []) (by kernel_rfl) rfl (by simp)) ?_
  refine AWp.then ⟨[⟨6, none, .lit (.int .i64 x0.fNext)⟩, ⟨5, none, .sl [] .full⟩, ⟨2, none, .ptr 0 0⟩, ⟨1, none, .lit (.int .i64 x1)⟩], [.blk [.lit (.int .i64 x0.fMost), .lit (.int .i64 x0.fWait), .lit (.bool x0.fBegun), .lit (.int .i64 x0.fNext), .sl (x0.fL.map Antiphonref09Thing.enc) .no, .lit (.int .i64 x0.fLost)]]⟩ (AWp.reg Try.tyOk hΓ (keep := [6]) (dead := []) (by kernel_rfl) rfl (by simp)) ?_
  refine AWp.seq ?_
  refine AWp.then ⟨[⟨13, none, .sl (x0.fL.map Antiphonref09Thing.enc) .no⟩, ⟨14, none, .lit (.int .i64 (lenL x0.fL))⟩, ⟨15, none, .lit (.int .i64 0)⟩, ⟨6, none, .lit (.int .i64 x0.fNext)⟩, ⟨5, none, .sl [] .full⟩, ⟨1, none, .lit (.int .i64 x1)⟩], [.blk [.lit (.int .i64 x0.fMost), .lit (.int .i64 x0.fWait), .lit (.bool x0.fBegun), .lit (.int .i64 x0.fNext), .sl (x0.fL.map Antiphonref09Thing.enc) .no, .lit (.int .i64 x0.fLost)]]⟩ (AWp.reg Try.tyOk hΓ (keep := [13, 14, 15]) (dead := [2]) (by kernel_rfl) rfl (by simp)) ?_
  refine AWp.equip 5 1 (els := []) (by simp) (by simp) ?_
  refine AWp.loopE (fun (s1 : Int × Int × List Int) (γ1 : Nat) => ⟨[⟨13, none, .sl (x0.fL.map Antiphonref09Thing.enc) .no⟩, ⟨14, none, .lit (.int .i64 (lenL x0.fL))⟩, ⟨15, none, .lit (.int .i64 s1.1)⟩, ⟨6, none, .lit (.int .i64 s1.2.1)⟩, ⟨5, none, .sl (s1.2.2.map (eNum .i64)) (.own 1 (γ1) 1)⟩, ⟨1, none, .lit (.int .i64 x1)⟩], [.blk [.lit (.int .i64 x0.fMost), .lit (.int .i64 x0.fWait), .lit (.bool x0.fBegun), .lit (.int .i64 x0.fNext), .sl (x0.fL.map Antiphonref09Thing.enc) .no, .lit (.int .i64 x0.fLost)], .room (γ1)]⟩) (fun (v1 : List Int) (γ1a : Nat) => ⟨[⟨5, none, .sl (v1.map (eNum .i64)) (.own 1 (γ1a) 1)⟩], [.blk [.lit (.int .i64 x0.fMost), .lit (.int .i64 x0.fWait), .lit (.bool x0.fBegun), .lit (.int .i64 x0.fNext), .sl (x0.fL.map Antiphonref09Thing.enc) .no, .lit (.int .i64 x0.fLost)], .room (γ1a)]⟩) (gRef09Missing.fin x0 x1) hr 0 2 (by simp) (fun s1 f γ1 hr => ?_) (fun v1 γ1a σ1 m1 hr hc => ?_) (fun _ h => h)
  · unfold gRef09Missing.loop1 at hr
    refine AWp.then ⟨[⟨16, none, .lit (.bool (ltI s1.1 (lenL x0.fL)))⟩, ⟨13, none, .sl (x0.fL.map Antiphonref09Thing.enc) .no⟩, ⟨14, none, .lit (.int .i64 (lenL x0.fL))⟩, ⟨15, none, .lit (.int .i64 s1.1)⟩, ⟨6, none, .lit (.int .i64 s1.2.1)⟩, ⟨5, none, .sl (s1.2.2.map (eNum .i64)) (.own 1 (γ1) 1)⟩, ⟨1, none, .lit (.int .i64 x1)⟩], [.blk [.lit (.int .i64 x0.fMost), .lit (.int .i64 x0.fWait), .lit (.bool x0.fBegun), .lit (.int .i64 x0.fNext), .sl (x0.fL.map Antiphonref09Thing.enc) .no, .lit (.int .i64 x0.fLost)], .room (γ1)]⟩ (AWp.reg Try.tyOk hΓ (keep := [16]) (dead := []) (by kernel_rfl) rfl (by simp)) ?_
    refine AWp.seq ?_
    refine AWp.cond (b := (ltI s1.1 (lenL x0.fL))) (by simp) (fun h5 => ?_) (fun h5 => ?_)
    · have hr := cond_t h5 hr
      refine AWp.skip ?_
      refine AWp.seq ?_
      refine AWp.block ?_
      obtain ⟨h6, hr⟩ := need_some hr
      refine AWp.then ⟨[⟨8, none, .ptr 2 0⟩, ⟨13, none, .sl (x0.fL.map Antiphonref09Thing.enc) .no⟩, ⟨14, none, .lit (.int .i64 (lenL x0.fL))⟩, ⟨15, none, .lit (.int .i64 s1.1)⟩, ⟨6, none, .lit (.int .i64 s1.2.1)⟩, ⟨5, none, .sl (s1.2.2.map (eNum .i64)) (.own 1 (γ1) 1)⟩, ⟨1, none, .lit (.int .i64 x1)⟩], [.blk [.lit (.int .i64 x0.fMost), .lit (.int .i64 x0.fWait), .lit (.bool x0.fBegun), .lit (.int .i64 x0.fNext), .sl (x0.fL.map Antiphonref09Thing.enc) .no, .lit (.int .i64 x0.fLost)], .room (γ1), .blk [.lit (.int .i64 ((nthI x0.fL s1.1).fAt)), .lit (.string ((nthI x0.fL s1.1).fText)), .lit (.int .i64 ((nthI x0.fL s1.1).fTick))]]⟩ (AWp.reg Try.tyOk hΓ (keep := [8]) (dead := [16]) (by kernel_rfl) rfl (by simp [h5, h6])) ?_
      refine AWp.loopB (fun (s2 : Int × List Int) (γ2 : Nat) => ⟨[⟨8, none, .ptr 2 0⟩, ⟨13, none, .sl (x0.fL.map Antiphonref09Thing.enc) .no⟩, ⟨14, none, .lit (.int .i64 (lenL x0.fL))⟩, ⟨15, none, .lit (.int .i64 s1.1)⟩, ⟨6, none, .lit (.int .i64 s2.1)⟩, ⟨5, none, .sl (s2.2.map (eNum .i64)) (.own 1 (γ2) 1)⟩, ⟨1, none, .lit (.int .i64 x1)⟩], [.blk [.lit (.int .i64 x0.fMost), .lit (.int .i64 x0.fWait), .lit (.bool x0.fBegun), .lit (.int .i64 x0.fNext), .sl (x0.fL.map Antiphonref09Thing.enc) .no, .lit (.int .i64 x0.fLost)], .room (γ2), .blk [.lit (.int .i64 ((nthI x0.fL s1.1).fAt)), .lit (.string ((nthI x0.fL s1.1).fText)), .lit (.int .i64 ((nthI x0.fL s1.1).fTick))]]⟩) (fun (v2 : List Int) (γ2a : Nat) => ⟨[⟨8, none, .ptr 2 0⟩, ⟨13, none, .sl (x0.fL.map Antiphonref09Thing.enc) .no⟩, ⟨14, none, .lit (.int .i64 (lenL x0.fL))⟩, ⟨15, none, .lit (.int .i64 s1.1)⟩, ⟨5, none, .sl (v2.map (eNum .i64)) (.own 1 (γ2a) 1)⟩, ⟨1, none, .lit (.int .i64 x1)⟩], [.blk [.lit (.int .i64 x0.fMost), .lit (.int .i64 x0.fWait), .lit (.bool x0.fBegun), .lit (.int .i64 x0.fNext), .sl (x0.fL.map Antiphonref09Thing.enc) .no, .lit (.int .i64 x0.fLost)], .room (γ2a), .blk [.lit (.int .i64 ((nthI x0.fL s1.1).fAt)), .lit (.string ((nthI x0.fL s1.1).fText)), .lit (.int .i64 ((nthI x0.fL s1.1).fTick))]]⟩) (QRr (gRef09Missing.fin x0 x1)) hr (γ1) 3 (by simp) (fun s2 f γ2 hr => ?_) (fun v2 γ2a hr => ?_) (fun _ h => QRr_ret h)
      · unfold gRef09Missing.loop2 at hr
        refine AWp.seq ?_
        refine AWp.then ⟨[⟨28, none, .lit (.bool (pickB (ltI s2.1 ((nthI x0.fL s1.1).fAt)) (ltI (lenL s2.2) x1) false))⟩, ⟨8, none, .ptr 2 0⟩, ⟨13, none, .sl (x0.fL.map Antiphonref09Thing.enc) .no⟩, ⟨14, none, .lit (.int .i64 (lenL x0.fL))⟩, ⟨15, none, .lit (.int .i64 s1.1)⟩, ⟨6, none, .lit (.int .i64 s2.1)⟩, ⟨5, none, .sl (s2.2.map (eNum .i64)) (.own 1 (γ2) 1)⟩, ⟨1, none, .lit (.int .i64 x1)⟩], [.blk [.lit (.int .i64 x0.fMost), .lit (.int .i64 x0.fWait), .lit (.bool x0.fBegun), .lit (.int .i64 x0.fNext), .sl (x0.fL.map Antiphonref09Thing.enc) .no, .lit (.int .i64 x0.fLost)], .room (γ2), .blk [.lit (.int .i64 ((nthI x0.fL s1.1).fAt)), .lit (.string ((nthI x0.fL s1.1).fText)), .lit (.int .i64 ((nthI x0.fL s1.1).fTick))]]⟩ (AWp.reg Try.tyOk hΓ (keep := [28]) (dead := []) (by kernel_rfl) rfl (by simp)) ?_
        refine AWp.cond (b := (pickB (ltI s2.1 ((nthI x0.fL s1.1).fAt)) (ltI (lenL s2.2) x1) false)) (by simp) (fun h7 => ?_) (fun h7 => ?_)
        · have hr := cond_t h7 hr
          refine AWp.skip ?_
          refine AWp.block ?_
          obtain ⟨h8, hr⟩ := need_some hr
          refine AWp.then ⟨[⟨5, none, .sl ((appL s2.2 [s2.1]).map (eNum .i64)) (.own 1 (γ2 + 1) 1)⟩, ⟨8, none, .ptr 2 0⟩, ⟨13, none, .sl (x0.fL.map Antiphonref09Thing.enc) .no⟩, ⟨14, none, .lit (.int .i64 (lenL x0.fL))⟩, ⟨15, none, .lit (.int .i64 s1.1)⟩, ⟨6, none, .lit (.int .i64 s2.1)⟩, ⟨1, none, .lit (.int .i64 x1)⟩], [.blk [.lit (.int .i64 x0.fMost), .lit (.int .i64 x0.fWait), .lit (.bool x0.fBegun), .lit (.int .i64 x0.fNext), .sl (x0.fL.map Antiphonref09Thing.enc) .no, .lit (.int .i64 x0.fLost)], .room (γ2 + 1), .blk [.lit (.int .i64 ((nthI x0.fL s1.1).fAt)), .lit (.string ((nthI x0.fL s1.1).fText)), .lit (.int .i64 ((nthI x0.fL s1.1).fTick))]]⟩ (AWp.reg Try.tyOk hΓ (keep := [5]) (dead := [28]) (by kernel_rfl) rfl (by simp [h7, h8])) ?_
          refine AWp.last ⟨[⟨6, none, .lit (.int .i64 (addI .i64 s2.1 1))⟩, ⟨5, none, .sl ((appL s2.2 [s2.1]).map (eNum .i64)) (.own 1 (γ2 + 1) 1)⟩, ⟨8, none, .ptr 2 0⟩, ⟨13, none, .sl (x0.fL.map Antiphonref09Thing.enc) .no⟩, ⟨14, none, .lit (.int .i64 (lenL x0.fL))⟩, ⟨15, none, .lit (.int .i64 s1.1)⟩, ⟨1, none, .lit (.int .i64 x1)⟩], [.blk [.lit (.int .i64 x0.fMost), .lit (.int .i64 x0.fWait), .lit (.bool x0.fBegun), .lit (.int .i64 x0.fNext), .sl (x0.fL.map Antiphonref09Thing.enc) .no, .lit (.int .i64 x0.fLost)], .room (γ2 + 1), .blk [.lit (.int .i64 ((nthI x0.fL s1.1).fAt)), .lit (.string ((nthI x0.fL s1.1).fText)), .lit (.int .i64 ((nthI x0.fL s1.1).fTick))]]⟩ (AWp.reg Try.tyOk hΓ (keep := [6]) (dead := []) (by kernel_rfl) rfl (by simp)) ?_
          obtain rfl := some_inj hr
          exact round_go (γ2 + 1) 3 (by simp)
        · have hr := cond_f h7 hr
          refine AWp.exit ?_
          obtain rfl := some_inj hr
          exact round_out (γ2) 3 (by simp)
      · refine AWp.last ⟨[⟨6, none, .lit (.int .i64 (addI .i64 ((nthI x0.fL s1.1).fAt) 1))⟩, ⟨13, none, .sl (x0.fL.map Antiphonref09Thing.enc) .no⟩, ⟨14, none, .lit (.int .i64 (lenL x0.fL))⟩, ⟨15, none, .lit (.int .i64 s1.1)⟩, ⟨5, none, .sl (v2.map (eNum .i64)) (.own 1 (γ2a) 1)⟩, ⟨1, none, .lit (.int .i64 x1)⟩], [.blk [.lit (.int .i64 x0.fMost), .lit (.int .i64 x0.fWait), .lit (.bool x0.fBegun), .lit (.int .i64 x0.fNext), .sl (x0.fL.map Antiphonref09Thing.enc) .no, .lit (.int .i64 x0.fLost)], .room (γ2a), .blk [.lit (.int .i64 ((nthI x0.fL s1.1).fAt)), .lit (.string ((nthI x0.fL s1.1).fText)), .lit (.int .i64 ((nthI x0.fL s1.1).fTick))]]⟩ (AWp.reg Try.tyOk hΓ (keep := [6]) (dead := [8]) (by kernel_rfl) rfl (by simp)) ?_
        refine AWp.last ⟨[⟨15, none, .lit (.int .i64 (addI .i64 s1.1 1))⟩, ⟨6, none, .lit (.int .i64 (addI .i64 ((nthI x0.fL s1.1).fAt) 1))⟩, ⟨13, none, .sl (x0.fL.map Antiphonref09Thing.enc) .no⟩, ⟨14, none, .lit (.int .i64 (lenL x0.fL))⟩, ⟨5, none, .sl (v2.map (eNum .i64)) (.own 1 (γ2a) 1)⟩, ⟨1, none, .lit (.int .i64 x1)⟩], [.blk [.lit (.int .i64 x0.fMost), .lit (.int .i64 x0.fWait), .lit (.bool x0.fBegun), .lit (.int .i64 x0.fNext), .sl (x0.fL.map Antiphonref09Thing.enc) .no, .lit (.int .i64 x0.fLost)], .room (γ2a), .blk [.lit (.int .i64 ((nthI x0.fL s1.1).fAt)), .lit (.string ((nthI x0.fL s1.1).fText)), .lit (.int .i64 ((nthI x0.fL s1.1).fTick))]]⟩ (AWp.reg Try.tyOk hΓ (keep := [15]) (dead := []) (by kernel_rfl) rfl (by simp)) ?_
        obtain rfl := some_inj hr
        exact round_go (γ2a) 2 (by simp)
    · have hr := cond_f h5 hr
      refine AWp.exit ?_
      obtain rfl := some_inj hr
      exact round_out (γ1) 2 (by simp)
  · refine AWp.conv hc ?_
    refine AWp.then ⟨[⟨4, none, .sl (v1.map (eNum .i64)) (.own 1 (γ1a) 1)⟩], [.blk [.lit (.int .i64 x0.fMost), .lit (.int .i64 x0.fWait), .lit (.bool x0.fBegun), .lit (.int .i64 x0.fNext), .sl (x0.fL.map Antiphonref09Thing.enc) .no, .lit (.int .i64 x0.fLost)], .room (γ1a)]⟩ (AWp.reg Try.tyOk hΓ (keep := [4]) (dead := [5]) (by kernel_rfl) rfl (by simp)) ?_
    refine AWp.ret ?_
    obtain rfl := some_inj hr
    refine fin_ret ?_
    simp

@[simp] noncomputable def gRef09Missing.S : Sp
  | [.agg e0, .lit (.int .i64 x1)], _ => some { av := .sl (((gRef09Missing (Antiphonref09Buffer.dec e0) x1).getD dflt).map (eNum .i64)) .no, M := none, obl := WeakL e0 (Antiphonref09Buffer.enc (Antiphonref09Buffer.dec e0)) ∧ (gRef09Missing (Antiphonref09Buffer.dec e0) x1).isSome = true }
  | _, _ => none

set_option maxHeartbeats 1000000 in
theorem gRef09Missing.ok : SpecOk Try.prog 18 gRef09Missing.S := by
  intro l M out h
  unfold gRef09Missing.S at h
  split at h
  · rename_i e0 x1
    cases h
    refine callOk_of fun ho => ?_
    obtain ⟨ox0, hs⟩ := ho
    generalize (Antiphonref09Buffer.dec e0) = x0 at *
    obtain ⟨r, hr⟩ := Option.isSome_iff_exists.1 hs
    simp only [hr, Option.getD_some]
    have q := call_frame (M := M) [] (gRef09Missing.can x0 x1 r hr) (by simp) rfl (by intro k i hk; simp at hk)
    exact callOk_conv q trivial (by simp; exact ox0) (by simp [frameOut, gRef09Missing.out]) (by simp [frameOut, gRef09Missing.out])
  · cases h
end Go.Proofs
