/- That these functions compute what their plain functions do. No condition. -/
import Derived.Test.YtdcfbacpklklcaaWlD
import Derived.Test.YtdcfbacpklklcaaTy
import Derived.Test.YtdcfbacpklklcaaLd
namespace Go.Proofs
open Go.Ab
@[simp] def gLaw23Needs.out (_x0 : List Int) (r : List Int) : Out := { av := .sl (r.map (encI .i64)) .no, M := none }
def gLaw23Needs.fin (x0 : List Int) (r : List Int) (σ : St) : Prop := finK (gLaw23Needs.out x0 r) [] σ.M (resA Try.ty σ.A σ.M Try.f15.results.toList)
set_option maxHeartbeats 4000000 in
set_option maxRecDepth 100000 in
theorem gLaw23Needs.can (x0 : List Int) (r : List Int) (hr : gLaw23Needs x0 = some r) : CallOk Try.prog 15 [.sl (x0.map (encI .i64)) .no] [] (gLaw23Needs.out x0 r) := by
  unfold gLaw23Needs at hr
  have hΓ := gamL_nil (P := Try.prog)
  refine call_of_awp Try.tyOk Try.func15 rfl (by kernel_rfl) rfl rfl (by simp) ?_
  intro _ _ _
  refine AWp.then ⟨[⟨0, none, .sl (x0.map (encI .i64)) .no⟩], []⟩ (AWp.reg Try.tyOk hΓ (keep := []) (dead := []) (by kernel_rfl) rfl (by simp)) ?_
  refine AWp.then ⟨[⟨3, none, .sl [] .full⟩, ⟨0, none, .sl (x0.map (encI .i64)) .no⟩], []⟩ (AWp.reg Try.tyOk hΓ (keep := [3]) (dead := []) (by kernel_rfl) rfl (by simp)) ?_
  refine AWp.then ⟨[⟨4, none, .lit (.int .i64 0)⟩, ⟨3, none, .sl [] .full⟩, ⟨0, none, .sl (x0.map (encI .i64)) .no⟩], []⟩ (AWp.reg Try.tyOk hΓ (keep := [4]) (dead := []) (by kernel_rfl) rfl (by simp)) ?_
  refine AWp.seq ?_
  refine AWp.then ⟨[⟨5, none, .lit (.int .i64 0)⟩, ⟨4, none, .lit (.int .i64 0)⟩, ⟨3, none, .sl [] .full⟩, ⟨0, none, .sl (x0.map (encI .i64)) .no⟩], []⟩ (AWp.reg Try.tyOk hΓ (keep := [5]) (dead := []) (by kernel_rfl) rfl (by simp)) ?_
  refine AWp.equip 3 1 (els := []) (by simp) (by simp) ?_
  refine AWp.loopE (fun (s1 : Int × Int × List Int) (γ1 : Nat) => ⟨[⟨5, none, .lit (.int .i64 s1.1)⟩, ⟨4, none, .lit (.int .i64 s1.2.1)⟩, ⟨3, none, .sl (s1.2.2.map (encI .i64)) (.own 0 (γ1) 1)⟩, ⟨0, none, .sl (x0.map (encI .i64)) .no⟩], [.room (γ1)]⟩) (fun (v1 : List Int) (γ1a : Nat) => ⟨[⟨3, none, .sl (v1.map (encI .i64)) (.own 0 (γ1a) 1)⟩], [.room (γ1a)]⟩) (gLaw23Needs.fin x0) hr 0 1 (by simp) (fun s1 f γ1 hr => ?_) (fun v1 γ1a σ1 m1 hr hc => ?_) (fun _ h => h)
  · unfold gLaw23Needs.loop1 at hr
    refine AWp.seq ?_
    refine AWp.then ⟨[⟨14, none, .lit (.bool (pickB (ltI s1.1 (lenL x0)) (ltI s1.1 3) false))⟩, ⟨5, none, .lit (.int .i64 s1.1)⟩, ⟨4, none, .lit (.int .i64 s1.2.1)⟩, ⟨3, none, .sl (s1.2.2.map (encI .i64)) (.own 0 (γ1) 1)⟩, ⟨0, none, .sl (x0.map (encI .i64)) .no⟩], [.room (γ1)]⟩ (AWp.reg Try.tyOk hΓ (keep := [14]) (dead := []) (by kernel_rfl) rfl (by simp)) ?_
    refine AWp.cond (b := (pickB (ltI s1.1 (lenL x0)) (ltI s1.1 3) false)) (by simp) (fun h5 => ?_) (fun h5 => ?_)
    · have hr := cond_t h5 hr
      refine AWp.skip ?_
      refine AWp.seq ?_
      refine AWp.block ?_
      obtain ⟨h6, hr⟩ := need_some hr
      refine AWp.then ⟨[⟨4, none, .lit (.int .i64 (addI .i64 s1.2.1 (bitsOp .and .i64 (nthI x0 s1.1) 63)))⟩, ⟨5, none, .lit (.int .i64 s1.1)⟩, ⟨3, none, .sl (s1.2.2.map (encI .i64)) (.own 0 (γ1) 1)⟩, ⟨0, none, .sl (x0.map (encI .i64)) .no⟩], [.room (γ1)]⟩ (AWp.reg Try.tyOk hΓ (keep := [4]) (dead := [14]) (by kernel_rfl) rfl (by simp [h5, h6])) ?_
      obtain ⟨h7, hr⟩ := need_some hr
      refine AWp.last ⟨[⟨3, none, .sl ((appL s1.2.2 [(addI .i64 s1.2.1 (bitsOp .and .i64 (nthI x0 s1.1) 63))]).map (encI .i64)) (.own 0 (γ1 + 1) 1)⟩, ⟨4, none, .lit (.int .i64 (addI .i64 s1.2.1 (bitsOp .and .i64 (nthI x0 s1.1) 63)))⟩, ⟨5, none, .lit (.int .i64 s1.1)⟩, ⟨0, none, .sl (x0.map (encI .i64)) .no⟩], [.room (γ1 + 1)]⟩ (AWp.reg Try.tyOk hΓ (keep := [3]) (dead := []) (by kernel_rfl) rfl (by simp [h7])) ?_
      refine AWp.last ⟨[⟨5, none, .lit (.int .i64 (addI .i64 s1.1 1))⟩, ⟨3, none, .sl ((appL s1.2.2 [(addI .i64 s1.2.1 (bitsOp .and .i64 (nthI x0 s1.1) 63))]).map (encI .i64)) (.own 0 (γ1 + 1) 1)⟩, ⟨4, none, .lit (.int .i64 (addI .i64 s1.2.1 (bitsOp .and .i64 (nthI x0 s1.1) 63)))⟩, ⟨0, none, .sl (x0.map (encI .i64)) .no⟩], [.room (γ1 + 1)]⟩ (AWp.reg Try.tyOk hΓ (keep := [5]) (dead := []) (by kernel_rfl) rfl (by simp)) ?_
      obtain rfl := some_inj hr
      exact round_go (γ1 + 1) 1 (by simp)
    · have hr := cond_f h5 hr
      refine AWp.exit ?_
      obtain rfl := some_inj hr
      exact round_out (γ1) 1 (by simp)
  · refine AWp.conv hc ?_
    refine AWp.seq ?_
    refine AWp.then ⟨[⟨30, none, .lit (.bool (eqI (lenL v1) 0))⟩, ⟨3, none, .sl (v1.map (encI .i64)) (.own 0 (γ1a) 1)⟩], [.room (γ1a)]⟩ (AWp.reg Try.tyOk hΓ (keep := [30]) (dead := []) (by kernel_rfl) rfl (by simp)) ?_
    refine AWp.cond (b := (eqI (lenL v1) 0)) (by simp) (fun h8 => ?_) (fun h8 => ?_)
    · have hr := cond_t h8 hr
      refine AWp.then ⟨[⟨2, none, .sl ([5].map (encI .i64)) .full⟩], [.room (γ1a)]⟩ (AWp.reg Try.tyOk hΓ (keep := [2]) (dead := [30, 3]) (by kernel_rfl) rfl (by simp [h8])) ?_
      refine AWp.ret ?_
      obtain rfl := some_inj hr
      refine fin_ret ?_
      simp
    · have hr := cond_f h8 hr
      refine AWp.skip ?_
      refine AWp.then ⟨[⟨2, none, .sl (v1.map (encI .i64)) (.own 0 (γ1a) 1)⟩], [.room (γ1a)]⟩ (AWp.reg Try.tyOk hΓ (keep := [2]) (dead := [30, 3]) (by kernel_rfl) rfl (by simp [h8])) ?_
      refine AWp.ret ?_
      obtain rfl := some_inj hr
      refine fin_ret ?_
      simp

@[simp] noncomputable def gLaw23Needs.S : Sp
  | [.sl e0 _], _ => some { av := .sl (((gLaw23Needs (e0.map decI)).getD dflt).map (encI .i64)) .no, M := none, obl := e0 = (e0.map decI).map (encI .i64) ∧ (gLaw23Needs (e0.map decI)).isSome = true }
  | _, _ => none

set_option maxHeartbeats 1000000 in
theorem gLaw23Needs.ok : SpecOk Try.prog 15 gLaw23Needs.S := by
  intro l M out h
  unfold gLaw23Needs.S at h
  split at h
  · rename_i e0 k0
    cases h
    refine callOk_of fun ho => ?_
    obtain ⟨ox0, hs⟩ := ho
    generalize (e0.map decI) = x0 at *
    subst ox0
    obtain ⟨r, hr⟩ := Option.isSome_iff_exists.1 hs
    simp only [hr, Option.getD_some]
    have q := call_frame (M := M) [] (gLaw23Needs.can x0 r hr) (by simp) rfl (by intro k i hk; simp at hk)
    exact callOk_conv q trivial (by simp) (by simp [frameOut, gLaw23Needs.out]) (by simp [frameOut, gLaw23Needs.out])
  · cases h

@[simp] def gLaw23Awake.out  (r : Bool) : Out := { av := .lit (.bool r), M := none }
def gLaw23Awake.fin  (r : Bool) (σ : St) : Prop := finK (gLaw23Awake.out  r) [] σ.M (resA Try.ty σ.A σ.M Try.f14.results.toList)
set_option maxHeartbeats 4000000 in
set_option maxRecDepth 100000 in
theorem gLaw23Awake.can  (r : Bool) (hr : gLaw23Awake = some r) : CallOk Try.prog 14 [] [] (gLaw23Awake.out  r) := by
  unfold gLaw23Awake at hr
  have hΓ := (gamL_cons gLadderLadderAt.ok (gamL_cons gLadderLadderTick.ok (gamL_cons gLadderNew.ok (gamL_nil))) : GamOk Try.prog _)
  refine call_of_awp Try.tyOk Try.func14 rfl (by kernel_rfl) rfl rfl (by simp) ?_
  intro _ _ _
  refine AWp.then ⟨[], []⟩ (AWp.reg Try.tyOk hΓ (keep := []) (dead := []) (by kernel_rfl) rfl (by simp)) ?_
  obtain ⟨r1, h17, hr⟩ := bind_some' hr
  cases h18 : r1.1 with
  | none =>
    have hr := optC_n h18 hr
    refine AWp.then ⟨[⟨1, none, .lit (.pointer none)⟩, ⟨2, none, .lit (.int .i64 r1.2)⟩], []⟩ (AWp.reg Try.tyOk hΓ (keep := [1, 2]) (dead := []) (by kernel_rfl) rfl (by simp [h17, h18])) ?_
    cases h19 : (pickB (eqI r1.2 0) false false) with
    | true =>
      have hr := cond_t h19 hr
      cases hr
    | false =>
      have hr := cond_f h19 hr
      refine AWp.then ⟨[⟨0, none, .lit (.bool false)⟩], []⟩ (AWp.regG Try.tyOk hΓ [(15, false), (20, false), (25, false), (29, false), (34, false), (39, false), (44, false), (48, false)] (keep := [0]) (dead := [1, 2]) (by kernel_rfl) rfl (by simp [h19])) ?_
      refine AWp.ret ?_
      obtain rfl := some_inj hr
      refine fin_ret ?_
      simp
  | some o1 =>
    have hr := optC_s h18 hr
    refine AWp.then ⟨[⟨1, none, .ptr 2 0⟩, ⟨2, none, .lit (.int .i64 r1.2)⟩], [.dead, .dead, .blk [.lit (.int .i64 o1.fConfig.fDown), .lit (.int .i64 o1.fConfig.fUp), .lit (.int .i64 o1.fConfig.fSpare), .sl (o1.fNeeds.map (encI .i64)) .no, .lit (.int .i64 o1.fAt), .lit (.int .i64 o1.fMost), .lit (.int .i64 o1.fBad), .lit (.int .i64 o1.fGood), .lit (.int .i64 o1.fMoves)]]⟩ (AWp.reg Try.tyOk hΓ (keep := [1, 2]) (dead := []) (by kernel_rfl) rfl (by simp [h17, h18])) ?_
    obtain ⟨h20, hr⟩ := need_some hr
    cases h21 : (pickB (pickB (eqI r1.2 0) true false) (eqI ((gLadderLadderAt o1).getD dflt) 1) false) with
    | true =>
      have hr := cond_t h21 hr
      obtain ⟨r2, h22, hr⟩ := bind_some' hr
      cases h23 : (notB r2.1) with
      | true =>
        have hr := cond_t h23 hr
        obtain ⟨r3, h24, hr⟩ := bind_some' hr
        obtain ⟨h25, hr⟩ := need_some hr
        cases h26 : (pickB r3.1 (eqI ((gLadderLadderAt r3.2).getD dflt) 0) false) with
        | true =>
          have hr := cond_t h26 hr
          obtain ⟨r4, h27, hr⟩ := bind_some' hr
          cases h28 : (notB r4.1) with
          | true =>
            have hr := cond_t h28 hr
            obtain ⟨r5, h29, hr⟩ := bind_some' hr
            cases h30 : (notB r5.1) with
            | true =>
              have hr := cond_t h30 hr
              obtain ⟨r6, h31, hr⟩ := bind_some' hr
              obtain ⟨h32, hr⟩ := need_some hr
              refine AWp.then ⟨[⟨0, none, .lit (.bool (pickB r6.1 (eqI ((gLadderLadderAt r6.2).getD dflt) 1) false))⟩], [.dead, .dead, .blk [.lit (.int .i64 r6.2.fConfig.fDown), .lit (.int .i64 r6.2.fConfig.fUp), .lit (.int .i64 r6.2.fConfig.fSpare), .sl (r6.2.fNeeds.map (encI .i64)) .no, .lit (.int .i64 r6.2.fAt), .lit (.int .i64 r6.2.fMost), .lit (.int .i64 r6.2.fBad), .lit (.int .i64 r6.2.fGood), .lit (.int .i64 r6.2.fMoves)]]⟩ (AWp.regG Try.tyOk hΓ [(20, true), (25, true), (34, true), (39, true), (44, true)] (keep := [0]) (dead := [1, 2]) (by kernel_rfl) rfl (by simp [h20, h21, h22, h23, h24, h25, h26, h27, h28, h29, h30, h31, h32])) ?_
              refine AWp.ret ?_
              obtain rfl := some_inj hr
              refine fin_ret ?_
              simp
            | false =>
              have hr := cond_f h30 hr
              refine AWp.then ⟨[⟨0, none, .lit (.bool false)⟩], [.dead, .dead, .blk [.lit (.int .i64 r5.2.fConfig.fDown), .lit (.int .i64 r5.2.fConfig.fUp), .lit (.int .i64 r5.2.fConfig.fSpare), .sl (r5.2.fNeeds.map (encI .i64)) .no, .lit (.int .i64 r5.2.fAt), .lit (.int .i64 r5.2.fMost), .lit (.int .i64 r5.2.fBad), .lit (.int .i64 r5.2.fGood), .lit (.int .i64 r5.2.fMoves)]]⟩ (AWp.regG Try.tyOk hΓ [(20, true), (25, true), (34, true), (39, true), (44, false)] (keep := [0]) (dead := [1, 2]) (by kernel_rfl) rfl (by simp [h20, h21, h22, h23, h24, h25, h26, h27, h28, h29, h30])) ?_
              refine AWp.ret ?_
              obtain rfl := some_inj hr
              refine fin_ret ?_
              simp
          | false =>
            have hr := cond_f h28 hr
            refine AWp.then ⟨[⟨0, none, .lit (.bool false)⟩], [.dead, .dead, .blk [.lit (.int .i64 r4.2.fConfig.fDown), .lit (.int .i64 r4.2.fConfig.fUp), .lit (.int .i64 r4.2.fConfig.fSpare), .sl (r4.2.fNeeds.map (encI .i64)) .no, .lit (.int .i64 r4.2.fAt), .lit (.int .i64 r4.2.fMost), .lit (.int .i64 r4.2.fBad), .lit (.int .i64 r4.2.fGood), .lit (.int .i64 r4.2.fMoves)]]⟩ (AWp.regG Try.tyOk hΓ [(20, true), (25, true), (34, true), (39, false), (44, false)] (keep := [0]) (dead := [1, 2]) (by kernel_rfl) rfl (by simp [h20, h21, h22, h23, h24, h25, h26, h27, h28])) ?_
            refine AWp.ret ?_
            obtain rfl := some_inj hr
            refine fin_ret ?_
            simp
        | false =>
          have hr := cond_f h26 hr
          refine AWp.then ⟨[⟨0, none, .lit (.bool false)⟩], [.dead, .dead, .blk [.lit (.int .i64 r3.2.fConfig.fDown), .lit (.int .i64 r3.2.fConfig.fUp), .lit (.int .i64 r3.2.fConfig.fSpare), .sl (r3.2.fNeeds.map (encI .i64)) .no, .lit (.int .i64 r3.2.fAt), .lit (.int .i64 r3.2.fMost), .lit (.int .i64 r3.2.fBad), .lit (.int .i64 r3.2.fGood), .lit (.int .i64 r3.2.fMoves)]]⟩ (AWp.regG Try.tyOk hΓ [(20, true), (25, true), (34, false), (39, false), (44, false)] (keep := [0]) (dead := [1, 2]) (by kernel_rfl) rfl (by simp [h20, h21, h22, h23, h24, h25, h26])) ?_
          refine AWp.ret ?_
          obtain rfl := some_inj hr
          refine fin_ret ?_
          simp
      | false =>
        have hr := cond_f h23 hr
        refine AWp.then ⟨[⟨0, none, .lit (.bool false)⟩], [.dead, .dead, .blk [.lit (.int .i64 r2.2.fConfig.fDown), .lit (.int .i64 r2.2.fConfig.fUp), .lit (.int .i64 r2.2.fConfig.fSpare), .sl (r2.2.fNeeds.map (encI .i64)) .no, .lit (.int .i64 r2.2.fAt), .lit (.int .i64 r2.2.fMost), .lit (.int .i64 r2.2.fBad), .lit (.int .i64 r2.2.fGood), .lit (.int .i64 r2.2.fMoves)]]⟩ (AWp.regG Try.tyOk hΓ [(20, true), (25, false), (34, false), (39, false), (44, false)] (keep := [0]) (dead := [1, 2]) (by kernel_rfl) rfl (by simp [h20, h21, h22, h23])) ?_
        refine AWp.ret ?_
        obtain rfl := some_inj hr
        refine fin_ret ?_
        simp
    | false =>
      have hr := cond_f h21 hr
      refine AWp.then ⟨[⟨0, none, .lit (.bool false)⟩], [.dead, .dead, .blk [.lit (.int .i64 o1.fConfig.fDown), .lit (.int .i64 o1.fConfig.fUp), .lit (.int .i64 o1.fConfig.fSpare), .sl (o1.fNeeds.map (encI .i64)) .no, .lit (.int .i64 o1.fAt), .lit (.int .i64 o1.fMost), .lit (.int .i64 o1.fBad), .lit (.int .i64 o1.fGood), .lit (.int .i64 o1.fMoves)]]⟩ (AWp.regG Try.tyOk hΓ [(20, false), (25, false), (34, false), (39, false), (44, false)] (keep := [0]) (dead := [1, 2]) (by kernel_rfl) rfl (by simp [h20, h21])) ?_
      refine AWp.ret ?_
      obtain rfl := some_inj hr
      refine fin_ret ?_
      simp

@[simp] noncomputable def gLaw23Awake.S : Sp
  | [], _ => some { av := .lit (.bool (gLaw23Awake.getD dflt)), M := none, obl := gLaw23Awake.isSome = true }
  | _, _ => none

set_option maxHeartbeats 1000000 in
theorem gLaw23Awake.ok : SpecOk Try.prog 14 gLaw23Awake.S := by
  intro l M out h
  unfold gLaw23Awake.S at h
  split at h
  · cases h
    refine callOk_of fun ho => ?_
    have hs := ho
    obtain ⟨r, hr⟩ := Option.isSome_iff_exists.1 hs
    simp only [hr, Option.getD_some]
    have q := call_frame (M := M) [] (gLaw23Awake.can r hr) (by simp) rfl (by intro k i hk; simp at hk)
    exact callOk_conv q trivial (by simp) (by simp [frameOut, gLaw23Awake.out]) (by simp [frameOut, gLaw23Awake.out])
  · cases h
end Go.Proofs
