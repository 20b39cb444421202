/- That these functions compute what their plain functions do. No condition. -/
import Derived.Test.YtnbfecfhejopgaaDaD
import Derived.Test.YtnbfecfhejopgaaTy
import Derived.Test.YtnbfecfhejopgaaDc
namespace Go.Proofs
open Go.Ab
@[simp] def gLaw19Awake.out  (r : Bool) : Out := { av := .lit (.bool r), M := none }
def gLaw19Awake.fin  (r : Bool) (σ : St) : Prop := finK (gLaw19Awake.out  r) [] σ.M (resA Try.ty σ.A σ.M Try.f5.results.toList)
set_option maxHeartbeats 4000000 in
set_option maxRecDepth 100000 in
theorem gLaw19Awake.can  (r : Bool) (hr : gLaw19Awake = some r) : CallOk Try.prog 5 [] [] (gLaw19Awake.out  r) := by
  unfold gLaw19Awake at hr
  have hΓ := (gamL_cons gDrrSchedAdd.ok (gamL_cons gDrrSchedChoose.ok (gamL_cons gDrrSchedTake.ok (gamL_cons gDrrNew.ok (gamL_nil)))) : GamOk Try.prog _)
  refine call_of_awp Try.tyOk Try.func5 rfl (by kernel_rfl) rfl rfl (by simp) ?_
  intro _ _ _
  refine AWp.then ⟨[], []⟩ (AWp.reg Try.tyOk hΓ (keep := []) (dead := []) (by kernel_rfl) rfl (by simp)) ?_
  obtain ⟨r1, h14, hr⟩ := bind_some' hr
  cases h15 : r1.1 with
  | none =>
    have hr := optC_n h15 hr
    refine AWp.then ⟨[⟨1, none, .lit (.pointer none)⟩, ⟨2, none, .lit (.int .i64 r1.2)⟩], []⟩ (AWp.reg Try.tyOk hΓ (keep := [1, 2]) (dead := []) (by kernel_rfl) rfl (by simp [h14, h15])) ?_
    refine AWp.seq ?_
    cases h16 : (pickB (neI r1.2 0) true true) with
    | true =>
      have hr := cond_t h16 hr
      refine AWp.then ⟨[⟨26, none, .lit (.bool true)⟩, ⟨1, none, .lit (.pointer none)⟩], []⟩ (AWp.regG Try.tyOk hΓ [(17, true), (22, true)] (keep := [26]) (dead := [2]) (by kernel_rfl) rfl (by simp [h16])) ?_
      refine AWp.cond (b := true) (by simp) (fun hb => ?_) (fun hb => ?_)
      · refine AWp.then ⟨[⟨0, none, .lit (.bool false)⟩], []⟩ (AWp.reg Try.tyOk hΓ (keep := [0]) (dead := [26, 1]) (by kernel_rfl) rfl (by simp)) ?_
        refine AWp.ret ?_
        obtain rfl := some_inj hr
        refine fin_ret ?_
        simp
      · cases hb
    | false =>
      have hr := cond_f h16 hr
      cases hr
  | some o1 =>
    have hr := optC_s h15 hr
    refine AWp.then ⟨[⟨1, none, .ptr 2 0⟩, ⟨2, none, .lit (.int .i64 r1.2)⟩], [.mapo (encM (kI .i64) (kI .i64) o1.fShare), .mapo (encM (kI .i64) (kI .i64) o1.fLeft), .blk [.lit (.int .i64 o1.fMost), .mp 0, .mp 1, .lit (.int .i64 o1.fAt), .lit (.bool o1.fGranted)]]⟩ (AWp.reg Try.tyOk hΓ (keep := [1, 2]) (dead := []) (by kernel_rfl) rfl (by simp [h14, h15])) ?_
    refine AWp.seq ?_
    cases h17 : (pickB (neI r1.2 0) true false) with
    | true =>
      have hr := cond_t h17 hr
      refine AWp.then ⟨[⟨26, none, .lit (.bool true)⟩, ⟨1, none, .ptr 2 0⟩], [.mapo (encM (kI .i64) (kI .i64) o1.fShare), .mapo (encM (kI .i64) (kI .i64) o1.fLeft), .blk [.lit (.int .i64 o1.fMost), .mp 0, .mp 1, .lit (.int .i64 o1.fAt), .lit (.bool o1.fGranted)]]⟩ (AWp.regG Try.tyOk hΓ [(17, true), (22, true)] (keep := [26]) (dead := [2]) (by kernel_rfl) rfl (by simp [h17])) ?_
      refine AWp.cond (b := true) (by simp) (fun hb => ?_) (fun hb => ?_)
      · refine AWp.then ⟨[⟨0, none, .lit (.bool false)⟩], [.mapo (encM (kI .i64) (kI .i64) o1.fShare), .mapo (encM (kI .i64) (kI .i64) o1.fLeft), .blk [.lit (.int .i64 o1.fMost), .mp 0, .mp 1, .lit (.int .i64 o1.fAt), .lit (.bool o1.fGranted)]]⟩ (AWp.reg Try.tyOk hΓ (keep := [0]) (dead := [26, 1]) (by kernel_rfl) rfl (by simp)) ?_
        refine AWp.ret ?_
        obtain rfl := some_inj hr
        refine fin_ret ?_
        simp
      · cases hb
    | false =>
      have hr := cond_f h17 hr
      obtain ⟨r2, h18, hr⟩ := bind_some' hr
      cases h19 : (neI r2.1 0) with
      | true =>
        have hr := cond_t h19 hr
        refine AWp.then ⟨[⟨26, none, .lit (.bool true)⟩, ⟨1, none, .ptr 2 0⟩], [.mapo (encM (kI .i64) (kI .i64) r2.2.fShare), .mapo (encM (kI .i64) (kI .i64) r2.2.fLeft), .blk [.lit (.int .i64 r2.2.fMost), .mp 0, .mp 1, .lit (.int .i64 r2.2.fAt), .lit (.bool r2.2.fGranted)]]⟩ (AWp.regG Try.tyOk hΓ [(17, false), (22, true)] (keep := [26]) (dead := [2]) (by kernel_rfl) rfl (by simp [h17, h18, h19])) ?_
        refine AWp.cond (b := true) (by simp) (fun hb => ?_) (fun hb => ?_)
        · refine AWp.then ⟨[⟨0, none, .lit (.bool false)⟩], [.mapo (encM (kI .i64) (kI .i64) r2.2.fShare), .mapo (encM (kI .i64) (kI .i64) r2.2.fLeft), .blk [.lit (.int .i64 r2.2.fMost), .mp 0, .mp 1, .lit (.int .i64 r2.2.fAt), .lit (.bool r2.2.fGranted)]]⟩ (AWp.reg Try.tyOk hΓ (keep := [0]) (dead := [26, 1]) (by kernel_rfl) rfl (by simp)) ?_
          refine AWp.ret ?_
          obtain rfl := some_inj hr
          refine fin_ret ?_
          simp
        · cases hb
      | false =>
        have hr := cond_f h19 hr
        obtain ⟨r3, h20, hr⟩ := bind_some' hr
        refine AWp.then ⟨[⟨26, none, .lit (.bool (neI r3.1 0))⟩, ⟨1, none, .ptr 2 0⟩], [.mapo (encM (kI .i64) (kI .i64) r3.2.fShare), .mapo (encM (kI .i64) (kI .i64) r3.2.fLeft), .blk [.lit (.int .i64 r3.2.fMost), .mp 0, .mp 1, .lit (.int .i64 r3.2.fAt), .lit (.bool r3.2.fGranted)]]⟩ (AWp.regG Try.tyOk hΓ [(17, false), (22, false)] (keep := [26]) (dead := [2]) (by kernel_rfl) rfl (by simp [h17, h18, h19, h20])) ?_
        refine AWp.cond (b := (neI r3.1 0)) (by simp) (fun h21 => ?_) (fun h21 => ?_)
        · have hr := cond_t h21 hr
          refine AWp.then ⟨[⟨0, none, .lit (.bool false)⟩], [.mapo (encM (kI .i64) (kI .i64) r3.2.fShare), .mapo (encM (kI .i64) (kI .i64) r3.2.fLeft), .blk [.lit (.int .i64 r3.2.fMost), .mp 0, .mp 1, .lit (.int .i64 r3.2.fAt), .lit (.bool r3.2.fGranted)]]⟩ (AWp.reg Try.tyOk hΓ (keep := [0]) (dead := [26, 1]) (by kernel_rfl) rfl (by simp [h21])) ?_
          refine AWp.ret ?_
          obtain rfl := some_inj hr
          refine fin_ret ?_
          simp
        · have hr := cond_f h21 hr
          refine AWp.skip ?_
          refine AWp.seq ?_
          refine AWp.then ⟨[⟨27, none, .sl ([1, 2, 2, 1, 2, 2].map (eNum .i64)) .full⟩, ⟨28, none, .lit (.int .i64 6)⟩, ⟨29, none, .lit (.int .i64 0)⟩, ⟨1, none, .ptr 2 0⟩], [.mapo (encM (kI .i64) (kI .i64) r3.2.fShare), .mapo (encM (kI .i64) (kI .i64) r3.2.fLeft), .blk [.lit (.int .i64 r3.2.fMost), .mp 0, .mp 1, .lit (.int .i64 r3.2.fAt), .lit (.bool r3.2.fGranted)]]⟩ (AWp.reg Try.tyOk hΓ (keep := [27, 28, 29]) (dead := [26]) (by kernel_rfl) rfl (by simp [h21])) ?_
          refine AWp.loopE (fun (s1 : Int × (List (Int × Int)) × (List (Int × Int)) × Int × Int × Bool) (γ1 : Unit) => ⟨[⟨27, none, .sl ([1, 2, 2, 1, 2, 2].map (eNum .i64)) .full⟩, ⟨28, none, .lit (.int .i64 6)⟩, ⟨29, none, .lit (.int .i64 s1.1)⟩, ⟨1, none, .ptr 2 0⟩], [.mapo (encM (kI .i64) (kI .i64) s1.2.1), .mapo (encM (kI .i64) (kI .i64) s1.2.2.1), .blk [.lit (.int .i64 s1.2.2.2.1), .mp 0, .mp 1, .lit (.int .i64 s1.2.2.2.2.1), .lit (.bool s1.2.2.2.2.2)]]⟩) (fun (v1 : (List (Int × Int)) × (List (Int × Int)) × Int × Int × Bool) (γ1a : Unit) => ⟨[], [.mapo (encM (kI .i64) (kI .i64) v1.1), .mapo (encM (kI .i64) (kI .i64) v1.2.1), .blk [.lit (.int .i64 v1.2.2.1), .mp 0, .mp 1, .lit (.int .i64 v1.2.2.2.1), .lit (.bool v1.2.2.2.2)]]⟩) gLaw19Awake.fin hr () 3 (by simp) (fun s1 f γ1 hr => ?_) (fun v1 γ1a σ1 m1 hr hc => ?_) (fun _ h => h)
          · unfold gLaw19Awake.loop1 at hr
            refine AWp.then ⟨[⟨30, none, .lit (.bool (ltI s1.1 6))⟩, ⟨27, none, .sl ([1, 2, 2, 1, 2, 2].map (eNum .i64)) .full⟩, ⟨28, none, .lit (.int .i64 6)⟩, ⟨29, none, .lit (.int .i64 s1.1)⟩, ⟨1, none, .ptr 2 0⟩], [.mapo (encM (kI .i64) (kI .i64) s1.2.1), .mapo (encM (kI .i64) (kI .i64) s1.2.2.1), .blk [.lit (.int .i64 s1.2.2.2.1), .mp 0, .mp 1, .lit (.int .i64 s1.2.2.2.2.1), .lit (.bool s1.2.2.2.2.2)]]⟩ (AWp.reg Try.tyOk hΓ (keep := [30]) (dead := []) (by kernel_rfl) rfl (by simp)) ?_
            refine AWp.seq ?_
            refine AWp.cond (b := (ltI s1.1 6)) (by simp) (fun h22 => ?_) (fun h22 => ?_)
            · have hr := cond_t h22 hr
              refine AWp.skip ?_
              refine AWp.seq ?_
              refine AWp.block ?_
              obtain ⟨h23, hr⟩ := need_some hr
              refine AWp.then ⟨[⟨4, none, .lit (.int .i64 (nthI [1, 2, 2, 1, 2, 2] s1.1))⟩, ⟨27, none, .sl ([1, 2, 2, 1, 2, 2].map (eNum .i64)) .full⟩, ⟨28, none, .lit (.int .i64 6)⟩, ⟨29, none, .lit (.int .i64 s1.1)⟩, ⟨1, none, .ptr 2 0⟩], [.mapo (encM (kI .i64) (kI .i64) s1.2.1), .mapo (encM (kI .i64) (kI .i64) s1.2.2.1), .blk [.lit (.int .i64 s1.2.2.2.1), .mp 0, .mp 1, .lit (.int .i64 s1.2.2.2.2.1), .lit (.bool s1.2.2.2.2.2)]]⟩ (AWp.reg Try.tyOk hΓ (keep := [4]) (dead := [30]) (by kernel_rfl) rfl (by simp [h22, h23])) ?_
              obtain ⟨r4, h24, hr⟩ := bind_some' hr
              refine AWp.then ⟨[⟨5, none, .lit (.int .i64 r4.1)⟩, ⟨6, none, .lit (.bool r4.2.1)⟩, ⟨4, none, .lit (.int .i64 (nthI [1, 2, 2, 1, 2, 2] s1.1))⟩, ⟨27, none, .sl ([1, 2, 2, 1, 2, 2].map (eNum .i64)) .full⟩, ⟨28, none, .lit (.int .i64 6)⟩, ⟨29, none, .lit (.int .i64 s1.1)⟩, ⟨1, none, .ptr 2 0⟩], [.mapo (encM (kI .i64) (kI .i64) r4.2.2.fShare), .mapo (encM (kI .i64) (kI .i64) r4.2.2.fLeft), .blk [.lit (.int .i64 r4.2.2.fMost), .mp 0, .mp 1, .lit (.int .i64 r4.2.2.fAt), .lit (.bool r4.2.2.fGranted)]]⟩ (AWp.reg Try.tyOk hΓ (keep := [5, 6]) (dead := []) (by kernel_rfl) rfl (by simp [h24])) ?_
              refine AWp.seq ?_
              refine AWp.then ⟨[⟨47, none, .lit (.bool (pickB (neI r4.1 (nthI [1, 2, 2, 1, 2, 2] s1.1)) true (notB r4.2.1)))⟩, ⟨27, none, .sl ([1, 2, 2, 1, 2, 2].map (eNum .i64)) .full⟩, ⟨28, none, .lit (.int .i64 6)⟩, ⟨29, none, .lit (.int .i64 s1.1)⟩, ⟨1, none, .ptr 2 0⟩], [.mapo (encM (kI .i64) (kI .i64) r4.2.2.fShare), .mapo (encM (kI .i64) (kI .i64) r4.2.2.fLeft), .blk [.lit (.int .i64 r4.2.2.fMost), .mp 0, .mp 1, .lit (.int .i64 r4.2.2.fAt), .lit (.bool r4.2.2.fGranted)]]⟩ (AWp.reg Try.tyOk hΓ (keep := [47]) (dead := [5, 6, 4]) (by kernel_rfl) rfl (by simp)) ?_
              refine AWp.cond (b := (pickB (neI r4.1 (nthI [1, 2, 2, 1, 2, 2] s1.1)) true (notB r4.2.1))) (by simp) (fun h25 => ?_) (fun h25 => ?_)
              · have hr := cond_t h25 hr
                refine AWp.then ⟨[⟨0, none, .lit (.bool false)⟩], [.mapo (encM (kI .i64) (kI .i64) r4.2.2.fShare), .mapo (encM (kI .i64) (kI .i64) r4.2.2.fLeft), .blk [.lit (.int .i64 r4.2.2.fMost), .mp 0, .mp 1, .lit (.int .i64 r4.2.2.fAt), .lit (.bool r4.2.2.fGranted)]]⟩ (AWp.reg Try.tyOk hΓ (keep := [0]) (dead := [47, 27, 28, 29, 1]) (by kernel_rfl) rfl (by simp [h25])) ?_
                refine AWp.ret ?_
                obtain rfl := some_inj hr
                refine round_ret ?_
                refine fin_ret ?_
                simp
              · have hr := cond_f h25 hr
                refine AWp.skip ?_
                obtain ⟨r5, h26, hr⟩ := bind_some' hr
                refine AWp.last ⟨[⟨27, none, .sl ([1, 2, 2, 1, 2, 2].map (eNum .i64)) .full⟩, ⟨28, none, .lit (.int .i64 6)⟩, ⟨29, none, .lit (.int .i64 s1.1)⟩, ⟨1, none, .ptr 2 0⟩], [.mapo (encM (kI .i64) (kI .i64) r5.fShare), .mapo (encM (kI .i64) (kI .i64) r5.fLeft), .blk [.lit (.int .i64 r5.fMost), .mp 0, .mp 1, .lit (.int .i64 r5.fAt), .lit (.bool r5.fGranted)]]⟩ (AWp.reg Try.tyOk hΓ (keep := []) (dead := [47]) (by kernel_rfl) rfl (by simp [h25, h26])) ?_
                refine AWp.last ⟨[⟨29, none, .lit (.int .i64 (addI .i64 s1.1 1))⟩, ⟨27, none, .sl ([1, 2, 2, 1, 2, 2].map (eNum .i64)) .full⟩, ⟨28, none, .lit (.int .i64 6)⟩, ⟨1, none, .ptr 2 0⟩], [.mapo (encM (kI .i64) (kI .i64) r5.fShare), .mapo (encM (kI .i64) (kI .i64) r5.fLeft), .blk [.lit (.int .i64 r5.fMost), .mp 0, .mp 1, .lit (.int .i64 r5.fAt), .lit (.bool r5.fGranted)]]⟩ (AWp.reg Try.tyOk hΓ (keep := [29]) (dead := []) (by kernel_rfl) rfl (by simp)) ?_
                obtain rfl := some_inj hr
                exact round_go () 3 (by first | (simp; done) | simp [h14, h15, h17, h18, h19, h20, h21, h22, h23, h24, h25, h26])
            · have hr := cond_f h22 hr
              refine AWp.exit ?_
              obtain rfl := some_inj hr
              exact round_out () 3 (by first | (simp; done) | simp [h14, h15, h17, h18, h19, h20, h21, h22])
          · refine AWp.conv hc ?_
            refine AWp.then ⟨[⟨0, none, .lit (.bool true)⟩], [.mapo (encM (kI .i64) (kI .i64) v1.1), .mapo (encM (kI .i64) (kI .i64) v1.2.1), .blk [.lit (.int .i64 v1.2.2.1), .mp 0, .mp 1, .lit (.int .i64 v1.2.2.2.1), .lit (.bool v1.2.2.2.2)]]⟩ (AWp.reg Try.tyOk hΓ (keep := [0]) (dead := []) (by kernel_rfl) rfl (by simp)) ?_
            refine AWp.ret ?_
            obtain rfl := some_inj hr
            refine fin_ret ?_
            simp

@[simp] noncomputable def gLaw19Awake.S : Sp
  | [], _ => some { av := .lit (.bool (gLaw19Awake.getD dflt)), M := none, obl := gLaw19Awake.isSome = true }
  | _, _ => none

set_option maxHeartbeats 1000000 in
theorem gLaw19Awake.ok : SpecOk Try.prog 5 gLaw19Awake.S := by
  intro l M out h
  unfold gLaw19Awake.S at h
  split at h
  · cases h
    refine callOk_of fun ho => ?_
    have hs := ho
    obtain ⟨r, hr⟩ := Option.isSome_iff_exists.1 hs
    simp only [hr, Option.getD_some]
    have q := call_frame (M := M) [] (gLaw19Awake.can r hr) (by simp) rfl (by intro k i hk; simp at hk)
    exact callOk_conv q trivial (by simp) (by simp [frameOut, gLaw19Awake.out]) (by simp [frameOut, gLaw19Awake.out])
  · cases h
end Go.Proofs
