/- That these functions compute what their plain functions do. No condition. -/
import Derived.Test.YtnbfecfhejopgaaDfD
import Derived.Test.YtnbfecfhejopgaaTy
import Derived.Test.YtnbfecfhejopgaaLl
import Derived.Test.YtnbfecfhejopgaaDc
import Derived.Test.YtnbfecfhejopgaaDa
namespace Go.Proofs
open Go.Ab
@[simp] def gLaw19Near.out (_x0 : Int) (_x1 : Int) (_x2 : Int) (_x3 : Int) (_x4 : Int) (r : Bool) : Out := { av := .lit (.bool r), M := none }
def gLaw19Near.fin (x0 : Int) (x1 : Int) (x2 : Int) (x3 : Int) (x4 : Int) (r : Bool) (σ : St) : Prop := finK (gLaw19Near.out x0 x1 x2 x3 x4 r) [] σ.M (resA Try.ty σ.A σ.M Try.f9.results.toList)
set_option maxHeartbeats 4000000 in
set_option maxRecDepth 100000 in
theorem gLaw19Near.can (x0 : Int) (x1 : Int) (x2 : Int) (x3 : Int) (x4 : Int) (r : Bool) (hr : gLaw19Near x0 x1 x2 x3 x4 = some r) : CallOk Try.prog 9 [.lit (.int .i64 x0), .lit (.int .i64 x1), .lit (.int .i64 x2), .lit (.int .i64 x3), .lit (.int .i64 x4)] [] (gLaw19Near.out x0 x1 x2 x3 x4 r) := by
  unfold gLaw19Near at hr
  have hΓ := gamL_nil (P := Try.prog)
  refine call_of_awp Try.tyOk Try.func9 rfl (by kernel_rfl) rfl rfl (by simp) ?_
  intro _ _ _
  refine AWp.then ⟨[⟨0, none, .lit (.int .i64 x0)⟩, ⟨1, none, .lit (.int .i64 x1)⟩, ⟨2, none, .lit (.int .i64 x2)⟩, ⟨3, none, .lit (.int .i64 x3)⟩, ⟨4, none, .lit (.int .i64 x4)⟩], []⟩ (AWp.reg Try.tyOk hΓ (keep := []) (dead := []) (by kernel_rfl) rfl (by simp)) ?_
  refine AWp.then ⟨[⟨11, none, .lit (.int .i64 (subI .i64 (mulI .i64 x0 x3) (mulI .i64 x1 x2)))⟩, ⟨2, none, .lit (.int .i64 x2)⟩, ⟨3, none, .lit (.int .i64 x3)⟩, ⟨4, none, .lit (.int .i64 x4)⟩], []⟩ (AWp.reg Try.tyOk hΓ (keep := [11]) (dead := [0, 1]) (by kernel_rfl) rfl (by simp)) ?_
  refine AWp.then ⟨[⟨10, none, .lit (.bool (pickB (leqI (subI .i64 (mulI .i64 x0 x3) (mulI .i64 x1 x2)) (addI .i64 (addI .i64 (mulI .i64 x2 x3) (mulI .i64 x4 x3)) (mulI .i64 x4 x2))) (leqI (negI .i64 (subI .i64 (mulI .i64 x0 x3) (mulI .i64 x1 x2))) (addI .i64 (addI .i64 (mulI .i64 x2 x3) (mulI .i64 x4 x3)) (mulI .i64 x4 x2))) false))⟩], []⟩ (AWp.reg Try.tyOk hΓ (keep := [10]) (dead := [11, 2, 3, 4]) (by kernel_rfl) rfl (by simp)) ?_
  refine AWp.ret ?_
  obtain rfl := some_inj hr
  refine fin_ret ?_
  simp

@[simp] noncomputable def gLaw19Near.S : Sp
  | [.lit (.int .i64 x0), .lit (.int .i64 x1), .lit (.int .i64 x2), .lit (.int .i64 x3), .lit (.int .i64 x4)], _ => some { av := .lit (.bool ((gLaw19Near x0 x1 x2 x3 x4).getD dflt)), M := none, obl := (gLaw19Near x0 x1 x2 x3 x4).isSome = true }
  | _, _ => none

set_option maxHeartbeats 1000000 in
theorem gLaw19Near.ok : SpecOk Try.prog 9 gLaw19Near.S := by
  intro l M out h
  unfold gLaw19Near.S at h
  split at h
  · rename_i x0 x1 x2 x3 x4
    cases h
    refine callOk_of fun ho => ?_
    have hs := ho
    obtain ⟨r, hr⟩ := Option.isSome_iff_exists.1 hs
    simp only [hr, Option.getD_some]
    have q := call_frame (M := M) [] (gLaw19Near.can x0 x1 x2 x3 x4 r hr) (by simp) rfl (by intro k i hk; simp at hk)
    exact callOk_conv q trivial (by simp) (by simp [frameOut, gLaw19Near.out]) (by simp [frameOut, gLaw19Near.out])
  · cases h

@[simp] def gLaw19DrrFair.out (_x0 : Int) (_x1 : List Int) (_x2 : List Int) (r : Bool) : Out := { av := .lit (.bool r), M := none }
def gLaw19DrrFair.fin (x0 : Int) (x1 : List Int) (x2 : List Int) (r : Bool) (σ : St) : Prop := finK (gLaw19DrrFair.out x0 x1 x2 r) [] σ.M (resA Try.ty σ.A σ.M Try.f3.results.toList)
set_option maxHeartbeats 4000000 in
set_option maxRecDepth 100000 in
theorem gLaw19DrrFair.can (x0 : Int) (x1 : List Int) (x2 : List Int) (r : Bool) (hr : gLaw19DrrFair x0 x1 x2 = some r) : CallOk Try.prog 3 [.lit (.int .i64 x0), .sl (x1.map (eNum .i64)) .no, .sl (x2.map (eNum .i64)) .no] [] (gLaw19DrrFair.out x0 x1 x2 r) := by
  unfold gLaw19DrrFair at hr
  have hΓ := (gamL_cons gDrrSchedAdd.ok (gamL_cons gDrrSchedChoose.ok (gamL_cons gDrrSchedTake.ok (gamL_cons gLaw19Awake.ok (gamL_cons gLaw19Near.ok (gamL_cons gDrrNew.ok (gamL_nil)))))) : GamOk Try.prog _)
  refine call_of_awp Try.tyOk Try.func3 rfl (by kernel_rfl) rfl rfl (by simp) ?_
  intro _ _ _
  refine AWp.then ⟨[⟨0, none, .lit (.int .i64 x0)⟩, ⟨1, none, .sl (x1.map (eNum .i64)) .no⟩, ⟨2, none, .sl (x2.map (eNum .i64)) .no⟩], []⟩ (AWp.reg Try.tyOk hΓ (keep := []) (dead := []) (by kernel_rfl) rfl (by simp)) ?_
  refine AWp.then ⟨[⟨0, none, .lit (.int .i64 (addI .i64 1 (bitsOp .and .i64 x0 63)))⟩, ⟨1, none, .sl (x1.map (eNum .i64)) .no⟩, ⟨2, none, .sl (x2.map (eNum .i64)) .no⟩], []⟩ (AWp.reg Try.tyOk hΓ (keep := [0]) (dead := []) (by kernel_rfl) rfl (by simp)) ?_
  obtain ⟨r1, h67, hr⟩ := bind_some' hr
  cases h68 : r1.1 with
  | none =>
    have hr := optC_n h68 hr
    refine AWp.then ⟨[⟨7, none, .lit (.pointer none)⟩, ⟨8, none, .lit (.int .i64 r1.2)⟩, ⟨0, none, .lit (.int .i64 (addI .i64 1 (bitsOp .and .i64 x0 63)))⟩, ⟨1, none, .sl (x1.map (eNum .i64)) .no⟩, ⟨2, none, .sl (x2.map (eNum .i64)) .no⟩], []⟩ (AWp.reg Try.tyOk hΓ (keep := [7, 8]) (dead := []) (by kernel_rfl) rfl (by simp [h67, h68])) ?_
    refine AWp.seq ?_
    obtain ⟨r2, h69, hr⟩ := bind_some' hr
    refine AWp.then ⟨[⟨34, none, .lit (.bool (pickB (notB r2) true (neI r1.2 0)))⟩, ⟨7, none, .lit (.pointer none)⟩, ⟨0, none, .lit (.int .i64 (addI .i64 1 (bitsOp .and .i64 x0 63)))⟩, ⟨1, none, .sl (x1.map (eNum .i64)) .no⟩, ⟨2, none, .sl (x2.map (eNum .i64)) .no⟩], []⟩ (AWp.reg Try.tyOk hΓ (keep := [34]) (dead := [8]) (by kernel_rfl) rfl (by simp [h69])) ?_
    refine AWp.cond (b := (pickB (notB r2) true (neI r1.2 0))) (by simp) (fun h70 => ?_) (fun h70 => ?_)
    · have hr := cond_t h70 hr
      refine AWp.then ⟨[⟨6, none, .lit (.bool false)⟩], []⟩ (AWp.reg Try.tyOk hΓ (keep := [6]) (dead := [34, 7, 0, 1, 2]) (by kernel_rfl) rfl (by simp [h70])) ?_
      refine AWp.ret ?_
      obtain rfl := some_inj hr
      refine fin_ret ?_
      simp
    · have hr := cond_f h70 hr
      refine AWp.skip ?_
      refine AWp.then ⟨[⟨9, none, .lit (.int .i64 (minI (lenL x1) 5))⟩, ⟨7, none, .lit (.pointer none)⟩, ⟨0, none, .lit (.int .i64 (addI .i64 1 (bitsOp .and .i64 x0 63)))⟩, ⟨1, none, .sl (x1.map (eNum .i64)) .no⟩, ⟨2, none, .sl (x2.map (eNum .i64)) .no⟩], []⟩ (AWp.reg Try.tyOk hΓ (keep := [9]) (dead := [34]) (by kernel_rfl) rfl (by simp [h70])) ?_
      refine AWp.then ⟨[⟨10, none, .sl [] .full⟩, ⟨9, none, .lit (.int .i64 (minI (lenL x1) 5))⟩, ⟨7, none, .lit (.pointer none)⟩, ⟨0, none, .lit (.int .i64 (addI .i64 1 (bitsOp .and .i64 x0 63)))⟩, ⟨1, none, .sl (x1.map (eNum .i64)) .no⟩, ⟨2, none, .sl (x2.map (eNum .i64)) .no⟩], []⟩ (AWp.reg Try.tyOk hΓ (keep := [10]) (dead := []) (by kernel_rfl) rfl (by simp)) ?_
      refine AWp.seq ?_
      refine AWp.then ⟨[⟨39, none, .lit (.int .i64 (minI (lenL x1) 5))⟩, ⟨40, none, .lit (.int .i64 0)⟩, ⟨10, none, .sl [] .full⟩, ⟨9, none, .lit (.int .i64 (minI (lenL x1) 5))⟩, ⟨7, none, .lit (.pointer none)⟩, ⟨0, none, .lit (.int .i64 (addI .i64 1 (bitsOp .and .i64 x0 63)))⟩, ⟨1, none, .sl (x1.map (eNum .i64)) .no⟩, ⟨2, none, .sl (x2.map (eNum .i64)) .no⟩], []⟩ (AWp.reg Try.tyOk hΓ (keep := [39, 40]) (dead := []) (by kernel_rfl) rfl (by simp)) ?_
      refine AWp.loopE (fun (s1 : Unit) (γ1 : Unit) => ⟨[⟨39, none, .lit (.int .i64 (minI (lenL x1) 5))⟩, ⟨40, none, .lit (.int .i64 0)⟩, ⟨10, none, .sl [] .full⟩, ⟨9, none, .lit (.int .i64 (minI (lenL x1) 5))⟩, ⟨7, none, .lit (.pointer none)⟩, ⟨0, none, .lit (.int .i64 (addI .i64 1 (bitsOp .and .i64 x0 63)))⟩, ⟨1, none, .sl (x1.map (eNum .i64)) .no⟩, ⟨2, none, .sl (x2.map (eNum .i64)) .no⟩], []⟩) (fun (v1 : Unit) (γ1a : Unit) => ⟨[⟨10, none, .sl [] .full⟩, ⟨9, none, .lit (.int .i64 (minI (lenL x1) 5))⟩, ⟨7, none, .lit (.pointer none)⟩, ⟨0, none, .lit (.int .i64 (addI .i64 1 (bitsOp .and .i64 x0 63)))⟩, ⟨2, none, .sl (x2.map (eNum .i64)) .no⟩], []⟩) (gLaw19DrrFair.fin x0 x1 x2) hr () 0 (by simp) (fun s1 f γ1 hr => ?_) (fun v1 γ1a σ1 m1 hr hc => ?_) (fun _ h => h)
      · unfold gLaw19DrrFair.loop1 at hr
        refine AWp.then ⟨[⟨41, none, .lit (.bool (ltI 0 (minI (lenL x1) 5)))⟩, ⟨39, none, .lit (.int .i64 (minI (lenL x1) 5))⟩, ⟨40, none, .lit (.int .i64 0)⟩, ⟨10, none, .sl [] .full⟩, ⟨9, none, .lit (.int .i64 (minI (lenL x1) 5))⟩, ⟨7, none, .lit (.pointer none)⟩, ⟨0, none, .lit (.int .i64 (addI .i64 1 (bitsOp .and .i64 x0 63)))⟩, ⟨1, none, .sl (x1.map (eNum .i64)) .no⟩, ⟨2, none, .sl (x2.map (eNum .i64)) .no⟩], []⟩ (AWp.reg Try.tyOk hΓ (keep := [41]) (dead := []) (by kernel_rfl) rfl (by simp)) ?_
        refine AWp.seq ?_
        refine AWp.cond (b := (ltI 0 (minI (lenL x1) 5))) (by simp) (fun h71 => ?_) (fun h71 => ?_)
        · have hr := cond_t h71 hr
          refine AWp.skip ?_
          refine AWp.seq ?_
          refine AWp.block ?_
          refine AWp.then ⟨[⟨11, none, .lit (.int .i64 0)⟩, ⟨39, none, .lit (.int .i64 (minI (lenL x1) 5))⟩, ⟨40, none, .lit (.int .i64 0)⟩, ⟨10, none, .sl [] .full⟩, ⟨9, none, .lit (.int .i64 (minI (lenL x1) 5))⟩, ⟨7, none, .lit (.pointer none)⟩, ⟨0, none, .lit (.int .i64 (addI .i64 1 (bitsOp .and .i64 x0 63)))⟩, ⟨1, none, .sl (x1.map (eNum .i64)) .no⟩, ⟨2, none, .sl (x2.map (eNum .i64)) .no⟩], []⟩ (AWp.reg Try.tyOk hΓ (keep := [11]) (dead := [41]) (by kernel_rfl) rfl (by simp [h71])) ?_
          obtain ⟨h72, hr⟩ := need_some hr
          obtain ⟨h73, hr⟩ := need_some hr
          refine AWp.then ⟨[⟨10, none, .sl ((appL [] [(addI .i64 (addI .i64 1 (bitsOp .and .i64 x0 63)) (bitsOp .and .i64 (nthI x1 0) 255))]).map (eNum .i64)) (.own 0 1 1)⟩, ⟨11, none, .lit (.int .i64 0)⟩, ⟨39, none, .lit (.int .i64 (minI (lenL x1) 5))⟩, ⟨40, none, .lit (.int .i64 0)⟩, ⟨9, none, .lit (.int .i64 (minI (lenL x1) 5))⟩, ⟨7, none, .lit (.pointer none)⟩, ⟨0, none, .lit (.int .i64 (addI .i64 1 (bitsOp .and .i64 x0 63)))⟩, ⟨1, none, .sl (x1.map (eNum .i64)) .no⟩, ⟨2, none, .sl (x2.map (eNum .i64)) .no⟩], [.room 1]⟩ (AWp.reg Try.tyOk hΓ (keep := [10]) (dead := []) (by kernel_rfl) rfl (by simp [h72, h73])) ?_
          refine AWp.seq ?_
          cases hr
        · have hr := cond_f h71 hr
          refine AWp.exit ?_
          obtain rfl := some_inj hr
          exact round_out () 0 (by first | (simp; done) | simp [h67, h68, h69, h70, h71])
      · refine AWp.conv hc ?_
        refine AWp.seq ?_
        refine AWp.then ⟨[⟨68, none, .lit (.bool (pickB (eqI (minI (lenL x1) 5) 0) true (eqI (lenL x2) 0)))⟩, ⟨10, none, .sl [] .full⟩, ⟨9, none, .lit (.int .i64 (minI (lenL x1) 5))⟩, ⟨7, none, .lit (.pointer none)⟩, ⟨0, none, .lit (.int .i64 (addI .i64 1 (bitsOp .and .i64 x0 63)))⟩, ⟨2, none, .sl (x2.map (eNum .i64)) .no⟩], []⟩ (AWp.reg Try.tyOk hΓ (keep := [68]) (dead := []) (by kernel_rfl) rfl (by simp)) ?_
        refine AWp.cond (b := (pickB (eqI (minI (lenL x1) 5) 0) true (eqI (lenL x2) 0))) (by simp) (fun h74 => ?_) (fun h74 => ?_)
        · have hr := cond_t h74 hr
          refine AWp.then ⟨[⟨6, none, .lit (.bool true)⟩], []⟩ (AWp.reg Try.tyOk hΓ (keep := [6]) (dead := [68, 10, 9, 7, 0, 2]) (by kernel_rfl) rfl (by simp [h74])) ?_
          refine AWp.ret ?_
          obtain rfl := some_inj hr
          refine fin_ret ?_
          simp
        · have hr := cond_f h74 hr
          refine AWp.skip ?_
          obtain ⟨h75, hr⟩ := need_some hr
          refine AWp.then ⟨[⟨12, none, .slb 0 (minI (lenL x1) 5)⟩, ⟨10, none, .sl [] .full⟩, ⟨9, none, .lit (.int .i64 (minI (lenL x1) 5))⟩, ⟨7, none, .lit (.pointer none)⟩, ⟨0, none, .lit (.int .i64 (addI .i64 1 (bitsOp .and .i64 x0 63)))⟩, ⟨2, none, .sl (x2.map (eNum .i64)) .no⟩], [.blk (cellsI .i64 (repL (minI (lenL x1) 5) 0))]⟩ (AWp.reg Try.tyOk hΓ (keep := [12]) (dead := [68]) (by kernel_rfl) rfl (by simp [h74, h75])) ?_
          obtain ⟨h76, hr⟩ := need_some hr
          refine AWp.then ⟨[⟨13, none, .slb 1 (minI (lenL x1) 5)⟩, ⟨12, none, .slb 0 (minI (lenL x1) 5)⟩, ⟨10, none, .sl [] .full⟩, ⟨9, none, .lit (.int .i64 (minI (lenL x1) 5))⟩, ⟨7, none, .lit (.pointer none)⟩, ⟨0, none, .lit (.int .i64 (addI .i64 1 (bitsOp .and .i64 x0 63)))⟩, ⟨2, none, .sl (x2.map (eNum .i64)) .no⟩], [.blk (cellsI .i64 (repL (minI (lenL x1) 5) 0)), .blk (cellsI .i64 (repL (minI (lenL x1) 5) 0))]⟩ (AWp.reg Try.tyOk hΓ (keep := [13]) (dead := []) (by kernel_rfl) rfl (by simp [h75])) ?_
          refine AWp.seq ?_
          refine AWp.then ⟨[⟨14, none, .lit (.int .i64 0)⟩, ⟨13, none, .slb 1 (minI (lenL x1) 5)⟩, ⟨12, none, .slb 0 (minI (lenL x1) 5)⟩, ⟨10, none, .sl [] .full⟩, ⟨9, none, .lit (.int .i64 (minI (lenL x1) 5))⟩, ⟨7, none, .lit (.pointer none)⟩, ⟨0, none, .lit (.int .i64 (addI .i64 1 (bitsOp .and .i64 x0 63)))⟩, ⟨2, none, .sl (x2.map (eNum .i64)) .no⟩], [.blk (cellsI .i64 (repL (minI (lenL x1) 5) 0)), .blk (cellsI .i64 (repL (minI (lenL x1) 5) 0))]⟩ (AWp.reg Try.tyOk hΓ (keep := [14]) (dead := []) (by kernel_rfl) rfl (by simp)) ?_
          refine AWp.loopE (fun (s2 : Unit) (γ2 : Unit) => ⟨[⟨14, none, .lit (.int .i64 0)⟩, ⟨13, none, .slb 1 (minI (lenL x1) 5)⟩, ⟨12, none, .slb 0 (minI (lenL x1) 5)⟩, ⟨10, none, .sl [] .full⟩, ⟨9, none, .lit (.int .i64 (minI (lenL x1) 5))⟩, ⟨7, none, .lit (.pointer none)⟩, ⟨0, none, .lit (.int .i64 (addI .i64 1 (bitsOp .and .i64 x0 63)))⟩, ⟨2, none, .sl (x2.map (eNum .i64)) .no⟩], [.blk (cellsI .i64 (repL (minI (lenL x1) 5) 0)), .blk (cellsI .i64 (repL (minI (lenL x1) 5) 0))]⟩) (fun (v2 : Unit) (γ2a : Unit) => ⟨[], [.blk (cellsI .i64 (repL (minI (lenL x1) 5) 0)), .blk (cellsI .i64 (repL (minI (lenL x1) 5) 0))]⟩) (gLaw19DrrFair.fin x0 x1 x2) hr () 2 (by simp) (fun s2 f γ2 hr => ?_) (fun v2 γ2a σ1 m1 hr hc => ?_) (fun _ h => h)
          · unfold gLaw19DrrFair.loop2 at hr
            refine AWp.seq ?_
            refine AWp.then ⟨[⟨74, none, .lit (.bool (ltI 0 150))⟩, ⟨14, none, .lit (.int .i64 0)⟩, ⟨13, none, .slb 1 (minI (lenL x1) 5)⟩, ⟨12, none, .slb 0 (minI (lenL x1) 5)⟩, ⟨10, none, .sl [] .full⟩, ⟨9, none, .lit (.int .i64 (minI (lenL x1) 5))⟩, ⟨7, none, .lit (.pointer none)⟩, ⟨0, none, .lit (.int .i64 (addI .i64 1 (bitsOp .and .i64 x0 63)))⟩, ⟨2, none, .sl (x2.map (eNum .i64)) .no⟩], [.blk (cellsI .i64 (repL (minI (lenL x1) 5) 0)), .blk (cellsI .i64 (repL (minI (lenL x1) 5) 0))]⟩ (AWp.reg Try.tyOk hΓ (keep := [74]) (dead := []) (by kernel_rfl) rfl (by simp)) ?_
            refine AWp.cond (b := (ltI 0 150)) (by simp) (fun h77 => ?_) (fun h77 => ?_)
            · have hr := cond_t h77 hr
              refine AWp.skip ?_
              refine AWp.seq ?_
              refine AWp.block ?_
              refine AWp.then ⟨[⟨15, none, .sl [] .full⟩, ⟨14, none, .lit (.int .i64 0)⟩, ⟨13, none, .slb 1 (minI (lenL x1) 5)⟩, ⟨12, none, .slb 0 (minI (lenL x1) 5)⟩, ⟨10, none, .sl [] .full⟩, ⟨9, none, .lit (.int .i64 (minI (lenL x1) 5))⟩, ⟨7, none, .lit (.pointer none)⟩, ⟨0, none, .lit (.int .i64 (addI .i64 1 (bitsOp .and .i64 x0 63)))⟩, ⟨2, none, .sl (x2.map (eNum .i64)) .no⟩], [.blk (cellsI .i64 (repL (minI (lenL x1) 5) 0)), .blk (cellsI .i64 (repL (minI (lenL x1) 5) 0))]⟩ (AWp.reg Try.tyOk hΓ (keep := [15]) (dead := [74]) (by kernel_rfl) rfl (by simp [h77])) ?_
              refine AWp.seq ?_
              refine AWp.then ⟨[⟨77, none, .lit (.int .i64 (minI (lenL x1) 5))⟩, ⟨78, none, .lit (.int .i64 0)⟩, ⟨15, none, .sl [] .full⟩, ⟨14, none, .lit (.int .i64 0)⟩, ⟨13, none, .slb 1 (minI (lenL x1) 5)⟩, ⟨12, none, .slb 0 (minI (lenL x1) 5)⟩, ⟨10, none, .sl [] .full⟩, ⟨9, none, .lit (.int .i64 (minI (lenL x1) 5))⟩, ⟨7, none, .lit (.pointer none)⟩, ⟨0, none, .lit (.int .i64 (addI .i64 1 (bitsOp .and .i64 x0 63)))⟩, ⟨2, none, .sl (x2.map (eNum .i64)) .no⟩], [.blk (cellsI .i64 (repL (minI (lenL x1) 5) 0)), .blk (cellsI .i64 (repL (minI (lenL x1) 5) 0))]⟩ (AWp.reg Try.tyOk hΓ (keep := [77, 78]) (dead := []) (by kernel_rfl) rfl (by simp)) ?_
              refine AWp.equip 15 2 (els := []) (by simp) (by simp) ?_
              refine AWp.loopE (fun (s4 : Int × List Antiphonref19Head) (γ4 : Nat) => ⟨[⟨77, none, .lit (.int .i64 (minI (lenL x1) 5))⟩, ⟨78, none, .lit (.int .i64 s4.1)⟩, ⟨15, none, .sl (s4.2.map Antiphonref19Head.enc) (.own 2 (γ4) 2)⟩, ⟨14, none, .lit (.int .i64 0)⟩, ⟨13, none, .slb 1 (minI (lenL x1) 5)⟩, ⟨12, none, .slb 0 (minI (lenL x1) 5)⟩, ⟨10, none, .sl [] .full⟩, ⟨9, none, .lit (.int .i64 (minI (lenL x1) 5))⟩, ⟨7, none, .lit (.pointer none)⟩, ⟨0, none, .lit (.int .i64 (addI .i64 1 (bitsOp .and .i64 x0 63)))⟩, ⟨2, none, .sl (x2.map (eNum .i64)) .no⟩], [.blk (cellsI .i64 (repL (minI (lenL x1) 5) 0)), .blk (cellsI .i64 (repL (minI (lenL x1) 5) 0)), .room (γ4)]⟩) (fun (v4 : List Antiphonref19Head) (γ4a : Nat) => ⟨[⟨15, none, .sl (v4.map Antiphonref19Head.enc) (.own 2 (γ4a) 2)⟩, ⟨14, none, .lit (.int .i64 0)⟩, ⟨13, none, .slb 1 (minI (lenL x1) 5)⟩, ⟨12, none, .slb 0 (minI (lenL x1) 5)⟩, ⟨10, none, .sl [] .full⟩, ⟨9, none, .lit (.int .i64 (minI (lenL x1) 5))⟩, ⟨7, none, .lit (.pointer none)⟩, ⟨0, none, .lit (.int .i64 (addI .i64 1 (bitsOp .and .i64 x0 63)))⟩, ⟨2, none, .sl (x2.map (eNum .i64)) .no⟩], [.blk (cellsI .i64 (repL (minI (lenL x1) 5) 0)), .blk (cellsI .i64 (repL (minI (lenL x1) 5) 0)), .room (γ4a)]⟩) (QRr (gLaw19DrrFair.fin x0 x1 x2)) hr 0 3 (by simp) (fun s4 f γ4 hr => ?_) (fun v4 γ4a σ1 m1 hr hc => ?_) (fun _ h => QRr_ret h)
              · unfold gLaw19DrrFair.loop4 at hr
                refine AWp.then ⟨[⟨79, none, .lit (.bool (ltI s4.1 (minI (lenL x1) 5)))⟩, ⟨77, none, .lit (.int .i64 (minI (lenL x1) 5))⟩, ⟨78, none, .lit (.int .i64 s4.1)⟩, ⟨15, none, .sl (s4.2.map Antiphonref19Head.enc) (.own 2 (γ4) 2)⟩, ⟨14, none, .lit (.int .i64 0)⟩, ⟨13, none, .slb 1 (minI (lenL x1) 5)⟩, ⟨12, none, .slb 0 (minI (lenL x1) 5)⟩, ⟨10, none, .sl [] .full⟩, ⟨9, none, .lit (.int .i64 (minI (lenL x1) 5))⟩, ⟨7, none, .lit (.pointer none)⟩, ⟨0, none, .lit (.int .i64 (addI .i64 1 (bitsOp .and .i64 x0 63)))⟩, ⟨2, none, .sl (x2.map (eNum .i64)) .no⟩], [.blk (cellsI .i64 (repL (minI (lenL x1) 5) 0)), .blk (cellsI .i64 (repL (minI (lenL x1) 5) 0)), .room (γ4)]⟩ (AWp.reg Try.tyOk hΓ (keep := [79]) (dead := []) (by kernel_rfl) rfl (by simp)) ?_
                refine AWp.seq ?_
                refine AWp.cond (b := (ltI s4.1 (minI (lenL x1) 5))) (by simp) (fun h78 => ?_) (fun h78 => ?_)
                · have hr := cond_t h78 hr
                  refine AWp.skip ?_
                  refine AWp.seq ?_
                  refine AWp.block ?_
                  refine AWp.then ⟨[⟨16, none, .lit (.int .i64 s4.1)⟩, ⟨77, none, .lit (.int .i64 (minI (lenL x1) 5))⟩, ⟨78, none, .lit (.int .i64 s4.1)⟩, ⟨15, none, .sl (s4.2.map Antiphonref19Head.enc) (.own 2 (γ4) 2)⟩, ⟨14, none, .lit (.int .i64 0)⟩, ⟨13, none, .slb 1 (minI (lenL x1) 5)⟩, ⟨12, none, .slb 0 (minI (lenL x1) 5)⟩, ⟨10, none, .sl [] .full⟩, ⟨9, none, .lit (.int .i64 (minI (lenL x1) 5))⟩, ⟨7, none, .lit (.pointer none)⟩, ⟨0, none, .lit (.int .i64 (addI .i64 1 (bitsOp .and .i64 x0 63)))⟩, ⟨2, none, .sl (x2.map (eNum .i64)) .no⟩], [.blk (cellsI .i64 (repL (minI (lenL x1) 5) 0)), .blk (cellsI .i64 (repL (minI (lenL x1) 5) 0)), .room (γ4)]⟩ (AWp.reg Try.tyOk hΓ (keep := [16]) (dead := [79]) (by kernel_rfl) rfl (by simp [h78])) ?_
                  obtain ⟨h79, hr⟩ := need_some hr
                  obtain ⟨h80, hr⟩ := need_some hr
                  obtain ⟨h81, hr⟩ := need_some hr
                  obtain ⟨h82, hr⟩ := need_some hr
                  refine AWp.last ⟨[⟨15, none, .sl ((appL s4.2 [(Antiphonref19Head.mk s4.1 (addI .i64 (remI (bitsOp .and .i64 (nthI x2 (remI (addI .i64 0 (mulI .i64 3 s4.1)) (lenL x2))) 65535) (addI .i64 1 (bitsOp .and .i64 x0 63))) 1))]).map Antiphonref19Head.enc) (.own 2 (γ4 + 1) 2)⟩, ⟨77, none, .lit (.int .i64 (minI (lenL x1) 5))⟩, ⟨78, none, .lit (.int .i64 s4.1)⟩, ⟨14, none, .lit (.int .i64 0)⟩, ⟨13, none, .slb 1 (minI (lenL x1) 5)⟩, ⟨12, none, .slb 0 (minI (lenL x1) 5)⟩, ⟨10, none, .sl [] .full⟩, ⟨9, none, .lit (.int .i64 (minI (lenL x1) 5))⟩, ⟨7, none, .lit (.pointer none)⟩, ⟨0, none, .lit (.int .i64 (addI .i64 1 (bitsOp .and .i64 x0 63)))⟩, ⟨2, none, .sl (x2.map (eNum .i64)) .no⟩], [.blk (cellsI .i64 (repL (minI (lenL x1) 5) 0)), .blk (cellsI .i64 (repL (minI (lenL x1) 5) 0)), .room (γ4 + 1)]⟩ (AWp.reg Try.tyOk hΓ (keep := [15]) (dead := [16]) (by kernel_rfl) rfl (by simp [h79, h80, h81, h82])) ?_
                  refine AWp.last ⟨[⟨78, none, .lit (.int .i64 (addI .i64 s4.1 1))⟩, ⟨15, none, .sl ((appL s4.2 [(Antiphonref19Head.mk s4.1 (addI .i64 (remI (bitsOp .and .i64 (nthI x2 (remI (addI .i64 0 (mulI .i64 3 s4.1)) (lenL x2))) 65535) (addI .i64 1 (bitsOp .and .i64 x0 63))) 1))]).map Antiphonref19Head.enc) (.own 2 (γ4 + 1) 2)⟩, ⟨77, none, .lit (.int .i64 (minI (lenL x1) 5))⟩, ⟨14, none, .lit (.int .i64 0)⟩, ⟨13, none, .slb 1 (minI (lenL x1) 5)⟩, ⟨12, none, .slb 0 (minI (lenL x1) 5)⟩, ⟨10, none, .sl [] .full⟩, ⟨9, none, .lit (.int .i64 (minI (lenL x1) 5))⟩, ⟨7, none, .lit (.pointer none)⟩, ⟨0, none, .lit (.int .i64 (addI .i64 1 (bitsOp .and .i64 x0 63)))⟩, ⟨2, none, .sl (x2.map (eNum .i64)) .no⟩], [.blk (cellsI .i64 (repL (minI (lenL x1) 5) 0)), .blk (cellsI .i64 (repL (minI (lenL x1) 5) 0)), .room (γ4 + 1)]⟩ (AWp.reg Try.tyOk hΓ (keep := [78]) (dead := []) (by kernel_rfl) rfl (by simp)) ?_
                  obtain rfl := some_inj hr
                  exact round_go (γ4 + 1) 3 (by first | (simp; done) | simp [h67, h68, h69, h70, h74, h75, h76, h77, h78, h79, h80, h81, h82])
                · have hr := cond_f h78 hr
                  refine AWp.exit ?_
                  obtain rfl := some_inj hr
                  exact round_out (γ4) 3 (by first | (simp; done) | simp [h67, h68, h69, h70, h74, h75, h76, h77, h78])
              · refine AWp.conv hc ?_
                refine AWp.seq ?_
                cases hr
            · have hr := cond_f h77 hr
              refine AWp.exit ?_
              obtain rfl := some_inj hr
              exact round_out () 2 (by first | (simp; done) | simp [h67, h68, h69, h70, h74, h75, h76, h77])
          · refine AWp.conv hc ?_
            refine AWp.then ⟨[⟨6, none, .lit (.bool true)⟩], [.blk (cellsI .i64 (repL (minI (lenL x1) 5) 0)), .blk (cellsI .i64 (repL (minI (lenL x1) 5) 0))]⟩ (AWp.reg Try.tyOk hΓ (keep := [6]) (dead := []) (by kernel_rfl) rfl (by simp)) ?_
            refine AWp.ret ?_
            obtain rfl := some_inj hr
            refine fin_ret ?_
            simp
  | some o1 =>
    have hr := optC_s h68 hr
    refine AWp.then ⟨[⟨7, none, .ptr 2 0⟩, ⟨8, none, .lit (.int .i64 r1.2)⟩, ⟨0, none, .lit (.int .i64 (addI .i64 1 (bitsOp .and .i64 x0 63)))⟩, ⟨1, none, .sl (x1.map (eNum .i64)) .no⟩, ⟨2, none, .sl (x2.map (eNum .i64)) .no⟩], [.mapo (encM (kI .i64) (kI .i64) o1.fShare), .mapo (encM (kI .i64) (kI .i64) o1.fLeft), .blk [.lit (.int .i64 o1.fMost), .mp 0, .mp 1, .lit (.int .i64 o1.fAt), .lit (.bool o1.fGranted)]]⟩ (AWp.reg Try.tyOk hΓ (keep := [7, 8]) (dead := []) (by kernel_rfl) rfl (by simp [h67, h68])) ?_
    refine AWp.seq ?_
    obtain ⟨r2, h83, hr⟩ := bind_some' hr
    refine AWp.then ⟨[⟨34, none, .lit (.bool (pickB (notB r2) true (neI r1.2 0)))⟩, ⟨7, none, .ptr 2 0⟩, ⟨0, none, .lit (.int .i64 (addI .i64 1 (bitsOp .and .i64 x0 63)))⟩, ⟨1, none, .sl (x1.map (eNum .i64)) .no⟩, ⟨2, none, .sl (x2.map (eNum .i64)) .no⟩], [.mapo (encM (kI .i64) (kI .i64) o1.fShare), .mapo (encM (kI .i64) (kI .i64) o1.fLeft), .blk [.lit (.int .i64 o1.fMost), .mp 0, .mp 1, .lit (.int .i64 o1.fAt), .lit (.bool o1.fGranted)]]⟩ (AWp.reg Try.tyOk hΓ (keep := [34]) (dead := [8]) (by kernel_rfl) rfl (by simp [h83])) ?_
    refine AWp.cond (b := (pickB (notB r2) true (neI r1.2 0))) (by simp) (fun h84 => ?_) (fun h84 => ?_)
    · have hr := cond_t h84 hr
      refine AWp.then ⟨[⟨6, none, .lit (.bool false)⟩], [.mapo (encM (kI .i64) (kI .i64) o1.fShare), .mapo (encM (kI .i64) (kI .i64) o1.fLeft), .blk [.lit (.int .i64 o1.fMost), .mp 0, .mp 1, .lit (.int .i64 o1.fAt), .lit (.bool o1.fGranted)]]⟩ (AWp.reg Try.tyOk hΓ (keep := [6]) (dead := [34, 7, 0, 1, 2]) (by kernel_rfl) rfl (by simp [h84])) ?_
      refine AWp.ret ?_
      obtain rfl := some_inj hr
      refine fin_ret ?_
      simp
    · have hr := cond_f h84 hr
      refine AWp.skip ?_
      refine AWp.then ⟨[⟨9, none, .lit (.int .i64 (minI (lenL x1) 5))⟩, ⟨7, none, .ptr 2 0⟩, ⟨0, none, .lit (.int .i64 (addI .i64 1 (bitsOp .and .i64 x0 63)))⟩, ⟨1, none, .sl (x1.map (eNum .i64)) .no⟩, ⟨2, none, .sl (x2.map (eNum .i64)) .no⟩], [.mapo (encM (kI .i64) (kI .i64) o1.fShare), .mapo (encM (kI .i64) (kI .i64) o1.fLeft), .blk [.lit (.int .i64 o1.fMost), .mp 0, .mp 1, .lit (.int .i64 o1.fAt), .lit (.bool o1.fGranted)]]⟩ (AWp.reg Try.tyOk hΓ (keep := [9]) (dead := [34]) (by kernel_rfl) rfl (by simp [h84])) ?_
      refine AWp.then ⟨[⟨10, none, .sl [] .full⟩, ⟨9, none, .lit (.int .i64 (minI (lenL x1) 5))⟩, ⟨7, none, .ptr 2 0⟩, ⟨0, none, .lit (.int .i64 (addI .i64 1 (bitsOp .and .i64 x0 63)))⟩, ⟨1, none, .sl (x1.map (eNum .i64)) .no⟩, ⟨2, none, .sl (x2.map (eNum .i64)) .no⟩], [.mapo (encM (kI .i64) (kI .i64) o1.fShare), .mapo (encM (kI .i64) (kI .i64) o1.fLeft), .blk [.lit (.int .i64 o1.fMost), .mp 0, .mp 1, .lit (.int .i64 o1.fAt), .lit (.bool o1.fGranted)]]⟩ (AWp.reg Try.tyOk hΓ (keep := [10]) (dead := []) (by kernel_rfl) rfl (by simp)) ?_
      refine AWp.seq ?_
      refine AWp.then ⟨[⟨39, none, .lit (.int .i64 (minI (lenL x1) 5))⟩, ⟨40, none, .lit (.int .i64 0)⟩, ⟨10, none, .sl [] .full⟩, ⟨9, none, .lit (.int .i64 (minI (lenL x1) 5))⟩, ⟨7, none, .ptr 2 0⟩, ⟨0, none, .lit (.int .i64 (addI .i64 1 (bitsOp .and .i64 x0 63)))⟩, ⟨1, none, .sl (x1.map (eNum .i64)) .no⟩, ⟨2, none, .sl (x2.map (eNum .i64)) .no⟩], [.mapo (encM (kI .i64) (kI .i64) o1.fShare), .mapo (encM (kI .i64) (kI .i64) o1.fLeft), .blk [.lit (.int .i64 o1.fMost), .mp 0, .mp 1, .lit (.int .i64 o1.fAt), .lit (.bool o1.fGranted)]]⟩ (AWp.reg Try.tyOk hΓ (keep := [39, 40]) (dead := []) (by kernel_rfl) rfl (by simp)) ?_
      refine AWp.equip 10 1 (els := []) (by simp) (by simp) ?_
      refine AWp.loopE (fun (s5 : Int × List Int × (List (Int × Int)) × (List (Int × Int)) × Int × Int × Bool) (γ5 : Nat) => ⟨[⟨39, none, .lit (.int .i64 (minI (lenL x1) 5))⟩, ⟨40, none, .lit (.int .i64 s5.1)⟩, ⟨10, none, .sl (s5.2.1.map (eNum .i64)) (.own 3 (γ5) 1)⟩, ⟨9, none, .lit (.int .i64 (minI (lenL x1) 5))⟩, ⟨7, none, .ptr 2 0⟩, ⟨0, none, .lit (.int .i64 (addI .i64 1 (bitsOp .and .i64 x0 63)))⟩, ⟨1, none, .sl (x1.map (eNum .i64)) .no⟩, ⟨2, none, .sl (x2.map (eNum .i64)) .no⟩], [.mapo (encM (kI .i64) (kI .i64) s5.2.2.1), .mapo (encM (kI .i64) (kI .i64) s5.2.2.2.1), .blk [.lit (.int .i64 s5.2.2.2.2.1), .mp 0, .mp 1, .lit (.int .i64 s5.2.2.2.2.2.1), .lit (.bool s5.2.2.2.2.2.2)], .room (γ5)]⟩) (fun (v5 : List Int × (List (Int × Int)) × (List (Int × Int)) × Int × Int × Bool) (γ5a : Nat) => ⟨[⟨10, none, .sl (v5.1.map (eNum .i64)) (.own 3 (γ5a) 1)⟩, ⟨9, none, .lit (.int .i64 (minI (lenL x1) 5))⟩, ⟨7, none, .ptr 2 0⟩, ⟨0, none, .lit (.int .i64 (addI .i64 1 (bitsOp .and .i64 x0 63)))⟩, ⟨2, none, .sl (x2.map (eNum .i64)) .no⟩], [.mapo (encM (kI .i64) (kI .i64) v5.2.1), .mapo (encM (kI .i64) (kI .i64) v5.2.2.1), .blk [.lit (.int .i64 v5.2.2.2.1), .mp 0, .mp 1, .lit (.int .i64 v5.2.2.2.2.1), .lit (.bool v5.2.2.2.2.2)], .room (γ5a)]⟩) (gLaw19DrrFair.fin x0 x1 x2) hr 0 4 (by simp) (fun s5 f γ5 hr => ?_) (fun v5 γ5a σ1 m1 hr hc => ?_) (fun _ h => h)
      · unfold gLaw19DrrFair.loop5 at hr
        refine AWp.then ⟨[⟨41, none, .lit (.bool (ltI s5.1 (minI (lenL x1) 5)))⟩, ⟨39, none, .lit (.int .i64 (minI (lenL x1) 5))⟩, ⟨40, none, .lit (.int .i64 s5.1)⟩, ⟨10, none, .sl (s5.2.1.map (eNum .i64)) (.own 3 (γ5) 1)⟩, ⟨9, none, .lit (.int .i64 (minI (lenL x1) 5))⟩, ⟨7, none, .ptr 2 0⟩, ⟨0, none, .lit (.int .i64 (addI .i64 1 (bitsOp .and .i64 x0 63)))⟩, ⟨1, none, .sl (x1.map (eNum .i64)) .no⟩, ⟨2, none, .sl (x2.map (eNum .i64)) .no⟩], [.mapo (encM (kI .i64) (kI .i64) s5.2.2.1), .mapo (encM (kI .i64) (kI .i64) s5.2.2.2.1), .blk [.lit (.int .i64 s5.2.2.2.2.1), .mp 0, .mp 1, .lit (.int .i64 s5.2.2.2.2.2.1), .lit (.bool s5.2.2.2.2.2.2)], .room (γ5)]⟩ (AWp.reg Try.tyOk hΓ (keep := [41]) (dead := []) (by kernel_rfl) rfl (by simp)) ?_
        refine AWp.seq ?_
        refine AWp.cond (b := (ltI s5.1 (minI (lenL x1) 5))) (by simp) (fun h85 => ?_) (fun h85 => ?_)
        · have hr := cond_t h85 hr
          refine AWp.skip ?_
          refine AWp.seq ?_
          refine AWp.block ?_
          refine AWp.then ⟨[⟨11, none, .lit (.int .i64 s5.1)⟩, ⟨39, none, .lit (.int .i64 (minI (lenL x1) 5))⟩, ⟨40, none, .lit (.int .i64 s5.1)⟩, ⟨10, none, .sl (s5.2.1.map (eNum .i64)) (.own 3 (γ5) 1)⟩, ⟨9, none, .lit (.int .i64 (minI (lenL x1) 5))⟩, ⟨7, none, .ptr 2 0⟩, ⟨0, none, .lit (.int .i64 (addI .i64 1 (bitsOp .and .i64 x0 63)))⟩, ⟨1, none, .sl (x1.map (eNum .i64)) .no⟩, ⟨2, none, .sl (x2.map (eNum .i64)) .no⟩], [.mapo (encM (kI .i64) (kI .i64) s5.2.2.1), .mapo (encM (kI .i64) (kI .i64) s5.2.2.2.1), .blk [.lit (.int .i64 s5.2.2.2.2.1), .mp 0, .mp 1, .lit (.int .i64 s5.2.2.2.2.2.1), .lit (.bool s5.2.2.2.2.2.2)], .room (γ5)]⟩ (AWp.reg Try.tyOk hΓ (keep := [11]) (dead := [41]) (by kernel_rfl) rfl (by simp [h85])) ?_
          obtain ⟨h86, hr⟩ := need_some hr
          obtain ⟨h87, hr⟩ := need_some hr
          refine AWp.then ⟨[⟨10, none, .sl ((appL s5.2.1 [(addI .i64 (addI .i64 1 (bitsOp .and .i64 x0 63)) (bitsOp .and .i64 (nthI x1 s5.1) 255))]).map (eNum .i64)) (.own 3 (γ5 + 1) 1)⟩, ⟨11, none, .lit (.int .i64 s5.1)⟩, ⟨39, none, .lit (.int .i64 (minI (lenL x1) 5))⟩, ⟨40, none, .lit (.int .i64 s5.1)⟩, ⟨9, none, .lit (.int .i64 (minI (lenL x1) 5))⟩, ⟨7, none, .ptr 2 0⟩, ⟨0, none, .lit (.int .i64 (addI .i64 1 (bitsOp .and .i64 x0 63)))⟩, ⟨1, none, .sl (x1.map (eNum .i64)) .no⟩, ⟨2, none, .sl (x2.map (eNum .i64)) .no⟩], [.mapo (encM (kI .i64) (kI .i64) s5.2.2.1), .mapo (encM (kI .i64) (kI .i64) s5.2.2.2.1), .blk [.lit (.int .i64 s5.2.2.2.2.1), .mp 0, .mp 1, .lit (.int .i64 s5.2.2.2.2.2.1), .lit (.bool s5.2.2.2.2.2.2)], .room (γ5 + 1)]⟩ (AWp.reg Try.tyOk hΓ (keep := [10]) (dead := []) (by kernel_rfl) rfl (by simp [h86, h87])) ?_
          obtain ⟨h88, hr⟩ := need_some hr
          obtain ⟨r3, h89, hr⟩ := bind_some' hr
          refine AWp.then ⟨[⟨60, none, .lit (.bool (neI r3.1 0))⟩, ⟨10, none, .sl ((appL s5.2.1 [(addI .i64 (addI .i64 1 (bitsOp .and .i64 x0 63)) (bitsOp .and .i64 (nthI x1 s5.1) 255))]).map (eNum .i64)) (.own 3 (γ5 + 1) 1)⟩, ⟨39, none, .lit (.int .i64 (minI (lenL x1) 5))⟩, ⟨40, none, .lit (.int .i64 s5.1)⟩, ⟨9, none, .lit (.int .i64 (minI (lenL x1) 5))⟩, ⟨7, none, .ptr 2 0⟩, ⟨0, none, .lit (.int .i64 (addI .i64 1 (bitsOp .and .i64 x0 63)))⟩, ⟨1, none, .sl (x1.map (eNum .i64)) .no⟩, ⟨2, none, .sl (x2.map (eNum .i64)) .no⟩], [.mapo (encM (kI .i64) (kI .i64) r3.2.fShare), .mapo (encM (kI .i64) (kI .i64) r3.2.fLeft), .blk [.lit (.int .i64 r3.2.fMost), .mp 0, .mp 1, .lit (.int .i64 r3.2.fAt), .lit (.bool r3.2.fGranted)], .room (γ5 + 1)]⟩ (AWp.reg Try.tyOk hΓ (keep := [60]) (dead := [11]) (by kernel_rfl) rfl (by simp [h88, h89])) ?_
          refine AWp.cond (b := (neI r3.1 0)) (by simp) (fun h90 => ?_) (fun h90 => ?_)
          · have hr := cond_t h90 hr
            refine AWp.then ⟨[⟨6, none, .lit (.bool false)⟩], [.mapo (encM (kI .i64) (kI .i64) r3.2.fShare), .mapo (encM (kI .i64) (kI .i64) r3.2.fLeft), .blk [.lit (.int .i64 r3.2.fMost), .mp 0, .mp 1, .lit (.int .i64 r3.2.fAt), .lit (.bool r3.2.fGranted)], .room (γ5 + 1)]⟩ (AWp.reg Try.tyOk hΓ (keep := [6]) (dead := [60, 10, 39, 40, 9, 7, 0, 1, 2]) (by kernel_rfl) rfl (by simp [h90])) ?_
            refine AWp.ret ?_
            obtain rfl := some_inj hr
            refine round_ret ?_
            refine fin_ret ?_
            simp
          · have hr := cond_f h90 hr
            refine AWp.skip ?_
            refine AWp.last ⟨[⟨40, none, .lit (.int .i64 (addI .i64 s5.1 1))⟩, ⟨10, none, .sl ((appL s5.2.1 [(addI .i64 (addI .i64 1 (bitsOp .and .i64 x0 63)) (bitsOp .and .i64 (nthI x1 s5.1) 255))]).map (eNum .i64)) (.own 3 (γ5 + 1) 1)⟩, ⟨39, none, .lit (.int .i64 (minI (lenL x1) 5))⟩, ⟨9, none, .lit (.int .i64 (minI (lenL x1) 5))⟩, ⟨7, none, .ptr 2 0⟩, ⟨0, none, .lit (.int .i64 (addI .i64 1 (bitsOp .and .i64 x0 63)))⟩, ⟨1, none, .sl (x1.map (eNum .i64)) .no⟩, ⟨2, none, .sl (x2.map (eNum .i64)) .no⟩], [.mapo (encM (kI .i64) (kI .i64) r3.2.fShare), .mapo (encM (kI .i64) (kI .i64) r3.2.fLeft), .blk [.lit (.int .i64 r3.2.fMost), .mp 0, .mp 1, .lit (.int .i64 r3.2.fAt), .lit (.bool r3.2.fGranted)], .room (γ5 + 1)]⟩ (AWp.reg Try.tyOk hΓ (keep := [40]) (dead := [60]) (by kernel_rfl) rfl (by simp [h90])) ?_
            obtain rfl := some_inj hr
            exact round_go (γ5 + 1) 4 (by first | (simp; done) | simp [h67, h68, h83, h84, h85, h86, h87, h88, h89, h90])
        · have hr := cond_f h85 hr
          refine AWp.exit ?_
          obtain rfl := some_inj hr
          exact round_out (γ5) 4 (by first | (simp; done) | simp [h67, h68, h83, h84, h85])
      · refine AWp.conv hc ?_
        refine AWp.seq ?_
        refine AWp.then ⟨[⟨68, none, .lit (.bool (pickB (eqI (minI (lenL x1) 5) 0) true (eqI (lenL x2) 0)))⟩, ⟨10, none, .sl (v5.1.map (eNum .i64)) (.own 3 (γ5a) 1)⟩, ⟨9, none, .lit (.int .i64 (minI (lenL x1) 5))⟩, ⟨7, none, .ptr 2 0⟩, ⟨0, none, .lit (.int .i64 (addI .i64 1 (bitsOp .and .i64 x0 63)))⟩, ⟨2, none, .sl (x2.map (eNum .i64)) .no⟩], [.mapo (encM (kI .i64) (kI .i64) v5.2.1), .mapo (encM (kI .i64) (kI .i64) v5.2.2.1), .blk [.lit (.int .i64 v5.2.2.2.1), .mp 0, .mp 1, .lit (.int .i64 v5.2.2.2.2.1), .lit (.bool v5.2.2.2.2.2)], .room (γ5a)]⟩ (AWp.reg Try.tyOk hΓ (keep := [68]) (dead := []) (by kernel_rfl) rfl (by simp)) ?_
        refine AWp.cond (b := (pickB (eqI (minI (lenL x1) 5) 0) true (eqI (lenL x2) 0))) (by simp) (fun h91 => ?_) (fun h91 => ?_)
        · have hr := cond_t h91 hr
          refine AWp.then ⟨[⟨6, none, .lit (.bool true)⟩], [.mapo (encM (kI .i64) (kI .i64) v5.2.1), .mapo (encM (kI .i64) (kI .i64) v5.2.2.1), .blk [.lit (.int .i64 v5.2.2.2.1), .mp 0, .mp 1, .lit (.int .i64 v5.2.2.2.2.1), .lit (.bool v5.2.2.2.2.2)], .room (γ5a)]⟩ (AWp.reg Try.tyOk hΓ (keep := [6]) (dead := [68, 10, 9, 7, 0, 2]) (by kernel_rfl) rfl (by simp [h91])) ?_
          refine AWp.ret ?_
          obtain rfl := some_inj hr
          refine fin_ret ?_
          simp
        · have hr := cond_f h91 hr
          refine AWp.skip ?_
          obtain ⟨h92, hr⟩ := need_some hr
          refine AWp.then ⟨[⟨12, none, .slb 4 (minI (lenL x1) 5)⟩, ⟨10, none, .sl (v5.1.map (eNum .i64)) (.own 3 (γ5a) 1)⟩, ⟨9, none, .lit (.int .i64 (minI (lenL x1) 5))⟩, ⟨7, none, .ptr 2 0⟩, ⟨0, none, .lit (.int .i64 (addI .i64 1 (bitsOp .and .i64 x0 63)))⟩, ⟨2, none, .sl (x2.map (eNum .i64)) .no⟩], [.mapo (encM (kI .i64) (kI .i64) v5.2.1), .mapo (encM (kI .i64) (kI .i64) v5.2.2.1), .blk [.lit (.int .i64 v5.2.2.2.1), .mp 0, .mp 1, .lit (.int .i64 v5.2.2.2.2.1), .lit (.bool v5.2.2.2.2.2)], .room (γ5a), .blk (cellsI .i64 (repL (minI (lenL x1) 5) 0))]⟩ (AWp.reg Try.tyOk hΓ (keep := [12]) (dead := [68]) (by kernel_rfl) rfl (by simp [h91, h92])) ?_
          obtain ⟨h93, hr⟩ := need_some hr
          refine AWp.then ⟨[⟨13, none, .slb 5 (minI (lenL x1) 5)⟩, ⟨12, none, .slb 4 (minI (lenL x1) 5)⟩, ⟨10, none, .sl (v5.1.map (eNum .i64)) (.own 3 (γ5a) 1)⟩, ⟨9, none, .lit (.int .i64 (minI (lenL x1) 5))⟩, ⟨7, none, .ptr 2 0⟩, ⟨0, none, .lit (.int .i64 (addI .i64 1 (bitsOp .and .i64 x0 63)))⟩, ⟨2, none, .sl (x2.map (eNum .i64)) .no⟩], [.mapo (encM (kI .i64) (kI .i64) v5.2.1), .mapo (encM (kI .i64) (kI .i64) v5.2.2.1), .blk [.lit (.int .i64 v5.2.2.2.1), .mp 0, .mp 1, .lit (.int .i64 v5.2.2.2.2.1), .lit (.bool v5.2.2.2.2.2)], .room (γ5a), .blk (cellsI .i64 (repL (minI (lenL x1) 5) 0)), .blk (cellsI .i64 (repL (minI (lenL x1) 5) 0))]⟩ (AWp.reg Try.tyOk hΓ (keep := [13]) (dead := []) (by kernel_rfl) rfl (by simp [h92])) ?_
          refine AWp.seq ?_
          refine AWp.then ⟨[⟨14, none, .lit (.int .i64 0)⟩, ⟨13, none, .slb 5 (minI (lenL x1) 5)⟩, ⟨12, none, .slb 4 (minI (lenL x1) 5)⟩, ⟨10, none, .sl (v5.1.map (eNum .i64)) (.own 3 (γ5a) 1)⟩, ⟨9, none, .lit (.int .i64 (minI (lenL x1) 5))⟩, ⟨7, none, .ptr 2 0⟩, ⟨0, none, .lit (.int .i64 (addI .i64 1 (bitsOp .and .i64 x0 63)))⟩, ⟨2, none, .sl (x2.map (eNum .i64)) .no⟩], [.mapo (encM (kI .i64) (kI .i64) v5.2.1), .mapo (encM (kI .i64) (kI .i64) v5.2.2.1), .blk [.lit (.int .i64 v5.2.2.2.1), .mp 0, .mp 1, .lit (.int .i64 v5.2.2.2.2.1), .lit (.bool v5.2.2.2.2.2)], .room (γ5a), .blk (cellsI .i64 (repL (minI (lenL x1) 5) 0)), .blk (cellsI .i64 (repL (minI (lenL x1) 5) 0))]⟩ (AWp.reg Try.tyOk hΓ (keep := [14]) (dead := []) (by kernel_rfl) rfl (by simp)) ?_
          refine AWp.loopE (fun (s6 : Int × (List (Int × Int)) × (List (Int × Int)) × Int × Int × Bool × List Int × List Int) (γ6 : Unit) => ⟨[⟨14, none, .lit (.int .i64 s6.1)⟩, ⟨13, none, .slb 5 (minI (lenL x1) 5)⟩, ⟨12, none, .slb 4 (minI (lenL x1) 5)⟩, ⟨10, none, .sl (v5.1.map (eNum .i64)) (.own 3 (γ5a) 1)⟩, ⟨9, none, .lit (.int .i64 (minI (lenL x1) 5))⟩, ⟨7, none, .ptr 2 0⟩, ⟨0, none, .lit (.int .i64 (addI .i64 1 (bitsOp .and .i64 x0 63)))⟩, ⟨2, none, .sl (x2.map (eNum .i64)) .no⟩], [.mapo (encM (kI .i64) (kI .i64) s6.2.1), .mapo (encM (kI .i64) (kI .i64) s6.2.2.1), .blk [.lit (.int .i64 s6.2.2.2.1), .mp 0, .mp 1, .lit (.int .i64 s6.2.2.2.2.1), .lit (.bool s6.2.2.2.2.2.1)], .room (γ5a), .blk (cellsI .i64 s6.2.2.2.2.2.2.1), .blk (cellsI .i64 s6.2.2.2.2.2.2.2)]⟩) (fun (v6 : (List (Int × Int)) × (List (Int × Int)) × Int × Int × Bool × List Int × List Int) (γ6a : Unit) => ⟨[], [.mapo (encM (kI .i64) (kI .i64) v6.1), .mapo (encM (kI .i64) (kI .i64) v6.2.1), .blk [.lit (.int .i64 v6.2.2.1), .mp 0, .mp 1, .lit (.int .i64 v6.2.2.2.1), .lit (.bool v6.2.2.2.2.1)], .room (γ5a), .blk (cellsI .i64 v6.2.2.2.2.2.1), .blk (cellsI .i64 v6.2.2.2.2.2.2)]⟩) (gLaw19DrrFair.fin x0 x1 x2) hr () 6 (by simp) (fun s6 f γ6 hr => ?_) (fun v6 γ6a σ1 m1 hr hc => ?_) (fun _ h => h)
          · unfold gLaw19DrrFair.loop6 at hr
            refine AWp.seq ?_
            refine AWp.then ⟨[⟨74, none, .lit (.bool (ltI s6.1 150))⟩, ⟨14, none, .lit (.int .i64 s6.1)⟩, ⟨13, none, .slb 5 (minI (lenL x1) 5)⟩, ⟨12, none, .slb 4 (minI (lenL x1) 5)⟩, ⟨10, none, .sl (v5.1.map (eNum .i64)) (.own 3 (γ5a) 1)⟩, ⟨9, none, .lit (.int .i64 (minI (lenL x1) 5))⟩, ⟨7, none, .ptr 2 0⟩, ⟨0, none, .lit (.int .i64 (addI .i64 1 (bitsOp .and .i64 x0 63)))⟩, ⟨2, none, .sl (x2.map (eNum .i64)) .no⟩], [.mapo (encM (kI .i64) (kI .i64) s6.2.1), .mapo (encM (kI .i64) (kI .i64) s6.2.2.1), .blk [.lit (.int .i64 s6.2.2.2.1), .mp 0, .mp 1, .lit (.int .i64 s6.2.2.2.2.1), .lit (.bool s6.2.2.2.2.2.1)], .room (γ5a), .blk (cellsI .i64 s6.2.2.2.2.2.2.1), .blk (cellsI .i64 s6.2.2.2.2.2.2.2)]⟩ (AWp.reg Try.tyOk hΓ (keep := [74]) (dead := []) (by kernel_rfl) rfl (by simp)) ?_
            refine AWp.cond (b := (ltI s6.1 150)) (by simp) (fun h94 => ?_) (fun h94 => ?_)
            · have hr := cond_t h94 hr
              refine AWp.skip ?_
              refine AWp.meetF (fun (v7 : (List (Int × Int)) × (List (Int × Int)) × Int × Int × Bool × List Int × List Int) (γ7 : Unit) => ⟨[⟨14, none, .lit (.int .i64 s6.1)⟩, ⟨13, none, .slb 5 (minI (lenL x1) 5)⟩, ⟨12, none, .slb 4 (minI (lenL x1) 5)⟩, ⟨10, none, .sl (v5.1.map (eNum .i64)) (.own 3 (γ5a) 1)⟩, ⟨9, none, .lit (.int .i64 (minI (lenL x1) 5))⟩, ⟨7, none, .ptr 2 0⟩, ⟨0, none, .lit (.int .i64 (addI .i64 1 (bitsOp .and .i64 x0 63)))⟩, ⟨2, none, .sl (x2.map (eNum .i64)) .no⟩], [.mapo (encM (kI .i64) (kI .i64) v7.1), .mapo (encM (kI .i64) (kI .i64) v7.2.1), .blk [.lit (.int .i64 v7.2.2.1), .mp 0, .mp 1, .lit (.int .i64 v7.2.2.2.1), .lit (.bool v7.2.2.2.2.1)], .room (γ5a), .blk (cellsI .i64 v7.2.2.2.2.2.1), .blk (cellsI .i64 v7.2.2.2.2.2.2)]⟩) (QRr (gLaw19DrrFair.fin x0 x1 x2)) hr (fun f hr => ?_) (fun v7 γ7 hr => ?_) (fun _ h => QRr_ret h)
              · refine AWp.block ?_
                refine AWp.then ⟨[⟨15, none, .sl [] .full⟩, ⟨14, none, .lit (.int .i64 s6.1)⟩, ⟨13, none, .slb 5 (minI (lenL x1) 5)⟩, ⟨12, none, .slb 4 (minI (lenL x1) 5)⟩, ⟨10, none, .sl (v5.1.map (eNum .i64)) (.own 3 (γ5a) 1)⟩, ⟨9, none, .lit (.int .i64 (minI (lenL x1) 5))⟩, ⟨7, none, .ptr 2 0⟩, ⟨0, none, .lit (.int .i64 (addI .i64 1 (bitsOp .and .i64 x0 63)))⟩, ⟨2, none, .sl (x2.map (eNum .i64)) .no⟩], [.mapo (encM (kI .i64) (kI .i64) s6.2.1), .mapo (encM (kI .i64) (kI .i64) s6.2.2.1), .blk [.lit (.int .i64 s6.2.2.2.1), .mp 0, .mp 1, .lit (.int .i64 s6.2.2.2.2.1), .lit (.bool s6.2.2.2.2.2.1)], .room (γ5a), .blk (cellsI .i64 s6.2.2.2.2.2.2.1), .blk (cellsI .i64 s6.2.2.2.2.2.2.2)]⟩ (AWp.reg Try.tyOk hΓ (keep := [15]) (dead := [74]) (by kernel_rfl) rfl (by simp [h94])) ?_
                refine AWp.seq ?_
                refine AWp.then ⟨[⟨77, none, .lit (.int .i64 (minI (lenL x1) 5))⟩, ⟨78, none, .lit (.int .i64 0)⟩, ⟨15, none, .sl [] .full⟩, ⟨14, none, .lit (.int .i64 s6.1)⟩, ⟨13, none, .slb 5 (minI (lenL x1) 5)⟩, ⟨12, none, .slb 4 (minI (lenL x1) 5)⟩, ⟨10, none, .sl (v5.1.map (eNum .i64)) (.own 3 (γ5a) 1)⟩, ⟨9, none, .lit (.int .i64 (minI (lenL x1) 5))⟩, ⟨7, none, .ptr 2 0⟩, ⟨0, none, .lit (.int .i64 (addI .i64 1 (bitsOp .and .i64 x0 63)))⟩, ⟨2, none, .sl (x2.map (eNum .i64)) .no⟩], [.mapo (encM (kI .i64) (kI .i64) s6.2.1), .mapo (encM (kI .i64) (kI .i64) s6.2.2.1), .blk [.lit (.int .i64 s6.2.2.2.1), .mp 0, .mp 1, .lit (.int .i64 s6.2.2.2.2.1), .lit (.bool s6.2.2.2.2.2.1)], .room (γ5a), .blk (cellsI .i64 s6.2.2.2.2.2.2.1), .blk (cellsI .i64 s6.2.2.2.2.2.2.2)]⟩ (AWp.reg Try.tyOk hΓ (keep := [77, 78]) (dead := []) (by kernel_rfl) rfl (by simp)) ?_
                refine AWp.equip 15 2 (els := []) (by simp) (by simp) ?_
                refine AWp.loopE (fun (s8 : Int × List Antiphonref19Head) (γ8 : Nat) => ⟨[⟨77, none, .lit (.int .i64 (minI (lenL x1) 5))⟩, ⟨78, none, .lit (.int .i64 s8.1)⟩, ⟨15, none, .sl (s8.2.map Antiphonref19Head.enc) (.own 6 (γ8) 2)⟩, ⟨14, none, .lit (.int .i64 s6.1)⟩, ⟨13, none, .slb 5 (minI (lenL x1) 5)⟩, ⟨12, none, .slb 4 (minI (lenL x1) 5)⟩, ⟨10, none, .sl (v5.1.map (eNum .i64)) (.own 3 (γ5a) 1)⟩, ⟨9, none, .lit (.int .i64 (minI (lenL x1) 5))⟩, ⟨7, none, .ptr 2 0⟩, ⟨0, none, .lit (.int .i64 (addI .i64 1 (bitsOp .and .i64 x0 63)))⟩, ⟨2, none, .sl (x2.map (eNum .i64)) .no⟩], [.mapo (encM (kI .i64) (kI .i64) s6.2.1), .mapo (encM (kI .i64) (kI .i64) s6.2.2.1), .blk [.lit (.int .i64 s6.2.2.2.1), .mp 0, .mp 1, .lit (.int .i64 s6.2.2.2.2.1), .lit (.bool s6.2.2.2.2.2.1)], .room (γ5a), .blk (cellsI .i64 s6.2.2.2.2.2.2.1), .blk (cellsI .i64 s6.2.2.2.2.2.2.2), .room (γ8)]⟩) (fun (v8 : List Antiphonref19Head) (γ8a : Nat) => ⟨[⟨15, none, .sl (v8.map Antiphonref19Head.enc) (.own 6 (γ8a) 2)⟩, ⟨14, none, .lit (.int .i64 s6.1)⟩, ⟨13, none, .slb 5 (minI (lenL x1) 5)⟩, ⟨12, none, .slb 4 (minI (lenL x1) 5)⟩, ⟨10, none, .sl (v5.1.map (eNum .i64)) (.own 3 (γ5a) 1)⟩, ⟨9, none, .lit (.int .i64 (minI (lenL x1) 5))⟩, ⟨7, none, .ptr 2 0⟩, ⟨0, none, .lit (.int .i64 (addI .i64 1 (bitsOp .and .i64 x0 63)))⟩, ⟨2, none, .sl (x2.map (eNum .i64)) .no⟩], [.mapo (encM (kI .i64) (kI .i64) s6.2.1), .mapo (encM (kI .i64) (kI .i64) s6.2.2.1), .blk [.lit (.int .i64 s6.2.2.2.1), .mp 0, .mp 1, .lit (.int .i64 s6.2.2.2.2.1), .lit (.bool s6.2.2.2.2.2.1)], .room (γ5a), .blk (cellsI .i64 s6.2.2.2.2.2.2.1), .blk (cellsI .i64 s6.2.2.2.2.2.2.2), .room (γ8a)]⟩) (QRm (QRr (gLaw19DrrFair.fin x0 x1 x2))) hr 0 7 (by simp) (fun s8 f γ8 hr => ?_) (fun v8 γ8a σ1 m1 hr hc => ?_) (fun _ h => QRm_ret h)
                · unfold gLaw19DrrFair.loop8 at hr
                  refine AWp.then ⟨[⟨79, none, .lit (.bool (ltI s8.1 (minI (lenL x1) 5)))⟩, ⟨77, none, .lit (.int .i64 (minI (lenL x1) 5))⟩, ⟨78, none, .lit (.int .i64 s8.1)⟩, ⟨15, none, .sl (s8.2.map Antiphonref19Head.enc) (.own 6 (γ8) 2)⟩, ⟨14, none, .lit (.int .i64 s6.1)⟩, ⟨13, none, .slb 5 (minI (lenL x1) 5)⟩, ⟨12, none, .slb 4 (minI (lenL x1) 5)⟩, ⟨10, none, .sl (v5.1.map (eNum .i64)) (.own 3 (γ5a) 1)⟩, ⟨9, none, .lit (.int .i64 (minI (lenL x1) 5))⟩, ⟨7, none, .ptr 2 0⟩, ⟨0, none, .lit (.int .i64 (addI .i64 1 (bitsOp .and .i64 x0 63)))⟩, ⟨2, none, .sl (x2.map (eNum .i64)) .no⟩], [.mapo (encM (kI .i64) (kI .i64) s6.2.1), .mapo (encM (kI .i64) (kI .i64) s6.2.2.1), .blk [.lit (.int .i64 s6.2.2.2.1), .mp 0, .mp 1, .lit (.int .i64 s6.2.2.2.2.1), .lit (.bool s6.2.2.2.2.2.1)], .room (γ5a), .blk (cellsI .i64 s6.2.2.2.2.2.2.1), .blk (cellsI .i64 s6.2.2.2.2.2.2.2), .room (γ8)]⟩ (AWp.reg Try.tyOk hΓ (keep := [79]) (dead := []) (by kernel_rfl) rfl (by simp)) ?_
                  refine AWp.seq ?_
                  refine AWp.cond (b := (ltI s8.1 (minI (lenL x1) 5))) (by simp) (fun h95 => ?_) (fun h95 => ?_)
                  · have hr := cond_t h95 hr
                    refine AWp.skip ?_
                    refine AWp.seq ?_
                    refine AWp.block ?_
                    refine AWp.then ⟨[⟨16, none, .lit (.int .i64 s8.1)⟩, ⟨77, none, .lit (.int .i64 (minI (lenL x1) 5))⟩, ⟨78, none, .lit (.int .i64 s8.1)⟩, ⟨15, none, .sl (s8.2.map Antiphonref19Head.enc) (.own 6 (γ8) 2)⟩, ⟨14, none, .lit (.int .i64 s6.1)⟩, ⟨13, none, .slb 5 (minI (lenL x1) 5)⟩, ⟨12, none, .slb 4 (minI (lenL x1) 5)⟩, ⟨10, none, .sl (v5.1.map (eNum .i64)) (.own 3 (γ5a) 1)⟩, ⟨9, none, .lit (.int .i64 (minI (lenL x1) 5))⟩, ⟨7, none, .ptr 2 0⟩, ⟨0, none, .lit (.int .i64 (addI .i64 1 (bitsOp .and .i64 x0 63)))⟩, ⟨2, none, .sl (x2.map (eNum .i64)) .no⟩], [.mapo (encM (kI .i64) (kI .i64) s6.2.1), .mapo (encM (kI .i64) (kI .i64) s6.2.2.1), .blk [.lit (.int .i64 s6.2.2.2.1), .mp 0, .mp 1, .lit (.int .i64 s6.2.2.2.2.1), .lit (.bool s6.2.2.2.2.2.1)], .room (γ5a), .blk (cellsI .i64 s6.2.2.2.2.2.2.1), .blk (cellsI .i64 s6.2.2.2.2.2.2.2), .room (γ8)]⟩ (AWp.reg Try.tyOk hΓ (keep := [16]) (dead := [79]) (by kernel_rfl) rfl (by simp [h95])) ?_
                    obtain ⟨h96, hr⟩ := need_some hr
                    obtain ⟨h97, hr⟩ := need_some hr
                    obtain ⟨h98, hr⟩ := need_some hr
                    obtain ⟨h99, hr⟩ := need_some hr
                    refine AWp.last ⟨[⟨15, none, .sl ((appL s8.2 [(Antiphonref19Head.mk s8.1 (addI .i64 (remI (bitsOp .and .i64 (nthI x2 (remI (addI .i64 s6.1 (mulI .i64 3 s8.1)) (lenL x2))) 65535) (addI .i64 1 (bitsOp .and .i64 x0 63))) 1))]).map Antiphonref19Head.enc) (.own 6 (γ8 + 1) 2)⟩, ⟨77, none, .lit (.int .i64 (minI (lenL x1) 5))⟩, ⟨78, none, .lit (.int .i64 s8.1)⟩, ⟨14, none, .lit (.int .i64 s6.1)⟩, ⟨13, none, .slb 5 (minI (lenL x1) 5)⟩, ⟨12, none, .slb 4 (minI (lenL x1) 5)⟩, ⟨10, none, .sl (v5.1.map (eNum .i64)) (.own 3 (γ5a) 1)⟩, ⟨9, none, .lit (.int .i64 (minI (lenL x1) 5))⟩, ⟨7, none, .ptr 2 0⟩, ⟨0, none, .lit (.int .i64 (addI .i64 1 (bitsOp .and .i64 x0 63)))⟩, ⟨2, none, .sl (x2.map (eNum .i64)) .no⟩], [.mapo (encM (kI .i64) (kI .i64) s6.2.1), .mapo (encM (kI .i64) (kI .i64) s6.2.2.1), .blk [.lit (.int .i64 s6.2.2.2.1), .mp 0, .mp 1, .lit (.int .i64 s6.2.2.2.2.1), .lit (.bool s6.2.2.2.2.2.1)], .room (γ5a), .blk (cellsI .i64 s6.2.2.2.2.2.2.1), .blk (cellsI .i64 s6.2.2.2.2.2.2.2), .room (γ8 + 1)]⟩ (AWp.reg Try.tyOk hΓ (keep := [15]) (dead := [16]) (by kernel_rfl) rfl (by simp [h96, h97, h98, h99])) ?_
                    refine AWp.last ⟨[⟨78, none, .lit (.int .i64 (addI .i64 s8.1 1))⟩, ⟨15, none, .sl ((appL s8.2 [(Antiphonref19Head.mk s8.1 (addI .i64 (remI (bitsOp .and .i64 (nthI x2 (remI (addI .i64 s6.1 (mulI .i64 3 s8.1)) (lenL x2))) 65535) (addI .i64 1 (bitsOp .and .i64 x0 63))) 1))]).map Antiphonref19Head.enc) (.own 6 (γ8 + 1) 2)⟩, ⟨77, none, .lit (.int .i64 (minI (lenL x1) 5))⟩, ⟨14, none, .lit (.int .i64 s6.1)⟩, ⟨13, none, .slb 5 (minI (lenL x1) 5)⟩, ⟨12, none, .slb 4 (minI (lenL x1) 5)⟩, ⟨10, none, .sl (v5.1.map (eNum .i64)) (.own 3 (γ5a) 1)⟩, ⟨9, none, .lit (.int .i64 (minI (lenL x1) 5))⟩, ⟨7, none, .ptr 2 0⟩, ⟨0, none, .lit (.int .i64 (addI .i64 1 (bitsOp .and .i64 x0 63)))⟩, ⟨2, none, .sl (x2.map (eNum .i64)) .no⟩], [.mapo (encM (kI .i64) (kI .i64) s6.2.1), .mapo (encM (kI .i64) (kI .i64) s6.2.2.1), .blk [.lit (.int .i64 s6.2.2.2.1), .mp 0, .mp 1, .lit (.int .i64 s6.2.2.2.2.1), .lit (.bool s6.2.2.2.2.2.1)], .room (γ5a), .blk (cellsI .i64 s6.2.2.2.2.2.2.1), .blk (cellsI .i64 s6.2.2.2.2.2.2.2), .room (γ8 + 1)]⟩ (AWp.reg Try.tyOk hΓ (keep := [78]) (dead := []) (by kernel_rfl) rfl (by simp)) ?_
                    obtain rfl := some_inj hr
                    exact round_go (γ8 + 1) 7 (by first | (simp; done) | simp [h67, h68, h83, h84, h91, h92, h93, h94, h95, h96, h97, h98, h99])
                  · have hr := cond_f h95 hr
                    refine AWp.exit ?_
                    obtain rfl := some_inj hr
                    exact round_out (γ8) 7 (by first | (simp; done) | simp [h67, h68, h83, h84, h91, h92, h93, h94, h95])
                · refine AWp.conv hc ?_
                  obtain ⟨r4, h100, hr⟩ := bind_some' hr
                  refine AWp.then ⟨[⟨17, none, .lit (.int .i64 r4.1)⟩, ⟨18, none, .lit (.bool r4.2.1)⟩, ⟨15, none, .sl (v8.map Antiphonref19Head.enc) (.own 6 (γ8a) 2)⟩, ⟨14, none, .lit (.int .i64 s6.1)⟩, ⟨13, none, .slb 5 (minI (lenL x1) 5)⟩, ⟨12, none, .slb 4 (minI (lenL x1) 5)⟩, ⟨10, none, .sl (v5.1.map (eNum .i64)) (.own 3 (γ5a) 1)⟩, ⟨9, none, .lit (.int .i64 (minI (lenL x1) 5))⟩, ⟨7, none, .ptr 2 0⟩, ⟨0, none, .lit (.int .i64 (addI .i64 1 (bitsOp .and .i64 x0 63)))⟩, ⟨2, none, .sl (x2.map (eNum .i64)) .no⟩], [.mapo (encM (kI .i64) (kI .i64) r4.2.2.fShare), .mapo (encM (kI .i64) (kI .i64) r4.2.2.fLeft), .blk [.lit (.int .i64 r4.2.2.fMost), .mp 0, .mp 1, .lit (.int .i64 r4.2.2.fAt), .lit (.bool r4.2.2.fGranted)], .room (γ5a), .blk (cellsI .i64 s6.2.2.2.2.2.2.1), .blk (cellsI .i64 s6.2.2.2.2.2.2.2), .room (γ8a)]⟩ (AWp.reg Try.tyOk hΓ (keep := [17, 18]) (dead := []) (by kernel_rfl) rfl (by simp [h100])) ?_
                  refine AWp.seq ?_
                  refine AWp.then ⟨[⟨117, none, .lit (.bool (pickB (pickB (notB r4.2.1) true (ltI r4.1 0)) true (leqI (minI (lenL x1) 5) r4.1)))⟩, ⟨17, none, .lit (.int .i64 r4.1)⟩, ⟨15, none, .sl (v8.map Antiphonref19Head.enc) (.own 6 (γ8a) 2)⟩, ⟨14, none, .lit (.int .i64 s6.1)⟩, ⟨13, none, .slb 5 (minI (lenL x1) 5)⟩, ⟨12, none, .slb 4 (minI (lenL x1) 5)⟩, ⟨10, none, .sl (v5.1.map (eNum .i64)) (.own 3 (γ5a) 1)⟩, ⟨9, none, .lit (.int .i64 (minI (lenL x1) 5))⟩, ⟨7, none, .ptr 2 0⟩, ⟨0, none, .lit (.int .i64 (addI .i64 1 (bitsOp .and .i64 x0 63)))⟩, ⟨2, none, .sl (x2.map (eNum .i64)) .no⟩], [.mapo (encM (kI .i64) (kI .i64) r4.2.2.fShare), .mapo (encM (kI .i64) (kI .i64) r4.2.2.fLeft), .blk [.lit (.int .i64 r4.2.2.fMost), .mp 0, .mp 1, .lit (.int .i64 r4.2.2.fAt), .lit (.bool r4.2.2.fGranted)], .room (γ5a), .blk (cellsI .i64 s6.2.2.2.2.2.2.1), .blk (cellsI .i64 s6.2.2.2.2.2.2.2), .room (γ8a)]⟩ (AWp.reg Try.tyOk hΓ (keep := [117]) (dead := [18]) (by kernel_rfl) rfl (by simp)) ?_
                  refine AWp.cond (b := (pickB (pickB (notB r4.2.1) true (ltI r4.1 0)) true (leqI (minI (lenL x1) 5) r4.1))) (by simp) (fun h101 => ?_) (fun h101 => ?_)
                  · have hr := cond_t h101 hr
                    refine AWp.then ⟨[⟨6, none, .lit (.bool false)⟩], [.mapo (encM (kI .i64) (kI .i64) r4.2.2.fShare), .mapo (encM (kI .i64) (kI .i64) r4.2.2.fLeft), .blk [.lit (.int .i64 r4.2.2.fMost), .mp 0, .mp 1, .lit (.int .i64 r4.2.2.fAt), .lit (.bool r4.2.2.fGranted)], .room (γ5a), .blk (cellsI .i64 s6.2.2.2.2.2.2.1), .blk (cellsI .i64 s6.2.2.2.2.2.2.2), .room (γ8a)]⟩ (AWp.reg Try.tyOk hΓ (keep := [6]) (dead := [117, 17, 15, 14, 13, 12, 10, 9, 7, 0, 2]) (by kernel_rfl) rfl (by simp [h101])) ?_
                    refine AWp.ret ?_
                    obtain rfl := some_inj hr
                    refine meet_ret ?_
                    refine ⟨_, rfl, ?_⟩
                    refine fin_ret ?_
                    simp
                  · have hr := cond_f h101 hr
                    refine AWp.skip ?_
                    obtain ⟨h102, hr⟩ := need_some hr
                    obtain ⟨r5, h103, hr⟩ := bind_some' hr
                    refine AWp.then ⟨[⟨17, none, .lit (.int .i64 r4.1)⟩, ⟨15, none, .sl (v8.map Antiphonref19Head.enc) (.own 6 (γ8a) 2)⟩, ⟨14, none, .lit (.int .i64 s6.1)⟩, ⟨13, none, .slb 5 (minI (lenL x1) 5)⟩, ⟨12, none, .slb 4 (minI (lenL x1) 5)⟩, ⟨10, none, .sl (v5.1.map (eNum .i64)) (.own 3 (γ5a) 1)⟩, ⟨9, none, .lit (.int .i64 (minI (lenL x1) 5))⟩, ⟨7, none, .ptr 2 0⟩, ⟨0, none, .lit (.int .i64 (addI .i64 1 (bitsOp .and .i64 x0 63)))⟩, ⟨2, none, .sl (x2.map (eNum .i64)) .no⟩], [.mapo (encM (kI .i64) (kI .i64) r5.fShare), .mapo (encM (kI .i64) (kI .i64) r5.fLeft), .blk [.lit (.int .i64 r5.fMost), .mp 0, .mp 1, .lit (.int .i64 r5.fAt), .lit (.bool r5.fGranted)], .room (γ5a), .blk (cellsI .i64 s6.2.2.2.2.2.2.1), .blk (cellsI .i64 s6.2.2.2.2.2.2.2), .room (γ8a)]⟩ (AWp.reg Try.tyOk hΓ (keep := []) (dead := [117]) (by kernel_rfl) rfl (by simp [h101, h102, h103])) ?_
                    obtain ⟨h104, hr⟩ := need_some hr
                    obtain ⟨h105, hr⟩ := need_some hr
                    obtain ⟨h106, hr⟩ := need_some hr
                    obtain ⟨h107, hr⟩ := need_some hr
                    obtain ⟨h108, hr⟩ := need_some hr
                    refine AWp.then ⟨[⟨14, none, .lit (.int .i64 s6.1)⟩, ⟨13, none, .slb 5 (minI (lenL x1) 5)⟩, ⟨12, none, .slb 4 (minI (lenL x1) 5)⟩, ⟨10, none, .sl (v5.1.map (eNum .i64)) (.own 3 (γ5a) 1)⟩, ⟨9, none, .lit (.int .i64 (minI (lenL x1) 5))⟩, ⟨7, none, .ptr 2 0⟩, ⟨0, none, .lit (.int .i64 (addI .i64 1 (bitsOp .and .i64 x0 63)))⟩, ⟨2, none, .sl (x2.map (eNum .i64)) .no⟩], [.mapo (encM (kI .i64) (kI .i64) r5.fShare), .mapo (encM (kI .i64) (kI .i64) r5.fLeft), .blk [.lit (.int .i64 r5.fMost), .mp 0, .mp 1, .lit (.int .i64 r5.fAt), .lit (.bool r5.fGranted)], .room (γ5a), .blk (cellsI .i64 (setI s6.2.2.2.2.2.2.1 r4.1 (addI .i64 (nthI s6.2.2.2.2.2.2.1 r4.1) ((nthI v8 r4.1).fSize)))), .blk (cellsI .i64 s6.2.2.2.2.2.2.2), .room (γ8a)]⟩ (AWp.regD Try.mixed Try.tyOk hΓ (keep := []) (dead := [17, 15]) [] [(false, []), (false, []), (false, []), (false, []), (false, []), (false, []), (false, []), (false, []), (false, []), (false, []), (false, []), (true, [])] (by kernel_rfl) rfl (by simp [h102, h104, h105, h108])) ?_
                    refine AWp.meetF (fun (v9 : List Int) (γ9 : Unit) => ⟨[⟨14, none, .lit (.int .i64 s6.1)⟩, ⟨13, none, .slb 5 (minI (lenL x1) 5)⟩, ⟨12, none, .slb 4 (minI (lenL x1) 5)⟩, ⟨10, none, .sl (v5.1.map (eNum .i64)) (.own 3 (γ5a) 1)⟩, ⟨9, none, .lit (.int .i64 (minI (lenL x1) 5))⟩, ⟨7, none, .ptr 2 0⟩, ⟨0, none, .lit (.int .i64 (addI .i64 1 (bitsOp .and .i64 x0 63)))⟩, ⟨2, none, .sl (x2.map (eNum .i64)) .no⟩], [.mapo (encM (kI .i64) (kI .i64) r5.fShare), .mapo (encM (kI .i64) (kI .i64) r5.fLeft), .blk [.lit (.int .i64 r5.fMost), .mp 0, .mp 1, .lit (.int .i64 r5.fAt), .lit (.bool r5.fGranted)], .room (γ5a), .blk (cellsI .i64 (setI s6.2.2.2.2.2.2.1 r4.1 (addI .i64 (nthI s6.2.2.2.2.2.2.1 r4.1) ((nthI v8 r4.1).fSize)))), .blk (cellsI .i64 v9), .room (γ8a)]⟩) (QRm (QRr (gLaw19DrrFair.fin x0 x1 x2))) hr (fun f hr => ?_) (fun v9 γ9 hr => ?_) (fun _ h => QRm_ret h)
                    · refine AWp.then ⟨[⟨137, none, .lit (.bool (eqI s6.1 40))⟩, ⟨14, none, .lit (.int .i64 s6.1)⟩, ⟨13, none, .slb 5 (minI (lenL x1) 5)⟩, ⟨12, none, .slb 4 (minI (lenL x1) 5)⟩, ⟨10, none, .sl (v5.1.map (eNum .i64)) (.own 3 (γ5a) 1)⟩, ⟨9, none, .lit (.int .i64 (minI (lenL x1) 5))⟩, ⟨7, none, .ptr 2 0⟩, ⟨0, none, .lit (.int .i64 (addI .i64 1 (bitsOp .and .i64 x0 63)))⟩, ⟨2, none, .sl (x2.map (eNum .i64)) .no⟩], [.mapo (encM (kI .i64) (kI .i64) r5.fShare), .mapo (encM (kI .i64) (kI .i64) r5.fLeft), .blk [.lit (.int .i64 r5.fMost), .mp 0, .mp 1, .lit (.int .i64 r5.fAt), .lit (.bool r5.fGranted)], .room (γ5a), .blk (cellsI .i64 (setI s6.2.2.2.2.2.2.1 r4.1 (addI .i64 (nthI s6.2.2.2.2.2.2.1 r4.1) ((nthI v8 r4.1).fSize)))), .blk (cellsI .i64 s6.2.2.2.2.2.2.2), .room (γ8a)]⟩ (AWp.reg Try.tyOk hΓ (keep := [137]) (dead := []) (by kernel_rfl) rfl (by simp)) ?_
                      refine AWp.cond (b := (eqI s6.1 40)) (by simp) (fun h109 => ?_) (fun h109 => ?_)
                      · have hr := cond_t h109 hr
                        obtain ⟨h110, hr⟩ := need_some hr
                        obtain ⟨h111, hr⟩ := need_some hr
                        refine AWp.last ⟨[⟨14, none, .lit (.int .i64 s6.1)⟩, ⟨13, none, .slb 5 (minI (lenL x1) 5)⟩, ⟨12, none, .slb 4 (minI (lenL x1) 5)⟩, ⟨10, none, .sl (v5.1.map (eNum .i64)) (.own 3 (γ5a) 1)⟩, ⟨9, none, .lit (.int .i64 (minI (lenL x1) 5))⟩, ⟨7, none, .ptr 2 0⟩, ⟨0, none, .lit (.int .i64 (addI .i64 1 (bitsOp .and .i64 x0 63)))⟩, ⟨2, none, .sl (x2.map (eNum .i64)) .no⟩], [.mapo (encM (kI .i64) (kI .i64) r5.fShare), .mapo (encM (kI .i64) (kI .i64) r5.fLeft), .blk [.lit (.int .i64 r5.fMost), .mp 0, .mp 1, .lit (.int .i64 r5.fAt), .lit (.bool r5.fGranted)], .room (γ5a), .blk (cellsI .i64 (setI s6.2.2.2.2.2.2.1 r4.1 (addI .i64 (nthI s6.2.2.2.2.2.2.1 r4.1) ((nthI v8 r4.1).fSize)))), .blk (cellsI .i64 (setI s6.2.2.2.2.2.2.1 r4.1 (addI .i64 (nthI s6.2.2.2.2.2.2.1 r4.1) ((nthI v8 r4.1).fSize)))), .room (γ8a)]⟩ (AWp.reg Try.tyOk hΓ (keep := []) (dead := [137]) (by kernel_rfl) rfl (by simp [h109, h110, h111])) ?_
                        obtain rfl := some_inj hr
                        exact meet_go () 7 (by first | (simp; done) | simp [h67, h68, h83, h84, h91, h92, h93, h94, h100, h101, h102, h103, h104, h105, h106, h107, h108, h109, h110, h111])
                      · have hr := cond_f h109 hr
                        refine AWp.skip ?_
                        obtain rfl := some_inj hr
                        exact meet_go () 7 (by first | (simp; done) | simp [h67, h68, h83, h84, h91, h92, h93, h94, h100, h101, h102, h103, h104, h105, h106, h107, h108, h109])
                    · refine AWp.then ⟨[⟨141, none, .lit (.int .i64 (minI (lenL x1) 5))⟩, ⟨142, none, .lit (.int .i64 0)⟩, ⟨14, none, .lit (.int .i64 s6.1)⟩, ⟨13, none, .slb 5 (minI (lenL x1) 5)⟩, ⟨12, none, .slb 4 (minI (lenL x1) 5)⟩, ⟨10, none, .sl (v5.1.map (eNum .i64)) (.own 3 (γ5a) 1)⟩, ⟨9, none, .lit (.int .i64 (minI (lenL x1) 5))⟩, ⟨7, none, .ptr 2 0⟩, ⟨0, none, .lit (.int .i64 (addI .i64 1 (bitsOp .and .i64 x0 63)))⟩, ⟨2, none, .sl (x2.map (eNum .i64)) .no⟩], [.mapo (encM (kI .i64) (kI .i64) r5.fShare), .mapo (encM (kI .i64) (kI .i64) r5.fLeft), .blk [.lit (.int .i64 r5.fMost), .mp 0, .mp 1, .lit (.int .i64 r5.fAt), .lit (.bool r5.fGranted)], .room (γ5a), .blk (cellsI .i64 (setI s6.2.2.2.2.2.2.1 r4.1 (addI .i64 (nthI s6.2.2.2.2.2.2.1 r4.1) ((nthI v8 r4.1).fSize)))), .blk (cellsI .i64 v9), .room (γ8a)]⟩ (AWp.reg Try.tyOk hΓ (keep := [141, 142]) (dead := []) (by kernel_rfl) rfl (by simp)) ?_
                      refine AWp.loopE (fun (s10 : Int) (γ10 : Unit) => ⟨[⟨141, none, .lit (.int .i64 (minI (lenL x1) 5))⟩, ⟨142, none, .lit (.int .i64 s10)⟩, ⟨14, none, .lit (.int .i64 s6.1)⟩, ⟨13, none, .slb 5 (minI (lenL x1) 5)⟩, ⟨12, none, .slb 4 (minI (lenL x1) 5)⟩, ⟨10, none, .sl (v5.1.map (eNum .i64)) (.own 3 (γ5a) 1)⟩, ⟨9, none, .lit (.int .i64 (minI (lenL x1) 5))⟩, ⟨7, none, .ptr 2 0⟩, ⟨0, none, .lit (.int .i64 (addI .i64 1 (bitsOp .and .i64 x0 63)))⟩, ⟨2, none, .sl (x2.map (eNum .i64)) .no⟩], [.mapo (encM (kI .i64) (kI .i64) r5.fShare), .mapo (encM (kI .i64) (kI .i64) r5.fLeft), .blk [.lit (.int .i64 r5.fMost), .mp 0, .mp 1, .lit (.int .i64 r5.fAt), .lit (.bool r5.fGranted)], .room (γ5a), .blk (cellsI .i64 (setI s6.2.2.2.2.2.2.1 r4.1 (addI .i64 (nthI s6.2.2.2.2.2.2.1 r4.1) ((nthI v8 r4.1).fSize)))), .blk (cellsI .i64 v9), .room (γ8a)]⟩) (fun (v10 : Unit) (γ10a : Unit) => ⟨[⟨14, none, .lit (.int .i64 s6.1)⟩, ⟨13, none, .slb 5 (minI (lenL x1) 5)⟩, ⟨12, none, .slb 4 (minI (lenL x1) 5)⟩, ⟨10, none, .sl (v5.1.map (eNum .i64)) (.own 3 (γ5a) 1)⟩, ⟨9, none, .lit (.int .i64 (minI (lenL x1) 5))⟩, ⟨7, none, .ptr 2 0⟩, ⟨0, none, .lit (.int .i64 (addI .i64 1 (bitsOp .and .i64 x0 63)))⟩, ⟨2, none, .sl (x2.map (eNum .i64)) .no⟩], [.mapo (encM (kI .i64) (kI .i64) r5.fShare), .mapo (encM (kI .i64) (kI .i64) r5.fLeft), .blk [.lit (.int .i64 r5.fMost), .mp 0, .mp 1, .lit (.int .i64 r5.fAt), .lit (.bool r5.fGranted)], .room (γ5a), .blk (cellsI .i64 (setI s6.2.2.2.2.2.2.1 r4.1 (addI .i64 (nthI s6.2.2.2.2.2.2.1 r4.1) ((nthI v8 r4.1).fSize)))), .blk (cellsI .i64 v9), .room (γ8a)]⟩) (QRm (QRr (gLaw19DrrFair.fin x0 x1 x2))) hr () 7 (by simp) (fun s10 f γ10 hr => ?_) (fun v10 γ10a σ1 m1 hr hc => ?_) (fun _ h => QRm_ret h)
                      · unfold gLaw19DrrFair.loop10 at hr
                        refine AWp.then ⟨[⟨143, none, .lit (.bool (ltI s10 (minI (lenL x1) 5)))⟩, ⟨141, none, .lit (.int .i64 (minI (lenL x1) 5))⟩, ⟨142, none, .lit (.int .i64 s10)⟩, ⟨14, none, .lit (.int .i64 s6.1)⟩, ⟨13, none, .slb 5 (minI (lenL x1) 5)⟩, ⟨12, none, .slb 4 (minI (lenL x1) 5)⟩, ⟨10, none, .sl (v5.1.map (eNum .i64)) (.own 3 (γ5a) 1)⟩, ⟨9, none, .lit (.int .i64 (minI (lenL x1) 5))⟩, ⟨7, none, .ptr 2 0⟩, ⟨0, none, .lit (.int .i64 (addI .i64 1 (bitsOp .and .i64 x0 63)))⟩, ⟨2, none, .sl (x2.map (eNum .i64)) .no⟩], [.mapo (encM (kI .i64) (kI .i64) r5.fShare), .mapo (encM (kI .i64) (kI .i64) r5.fLeft), .blk [.lit (.int .i64 r5.fMost), .mp 0, .mp 1, .lit (.int .i64 r5.fAt), .lit (.bool r5.fGranted)], .room (γ5a), .blk (cellsI .i64 (setI s6.2.2.2.2.2.2.1 r4.1 (addI .i64 (nthI s6.2.2.2.2.2.2.1 r4.1) ((nthI v8 r4.1).fSize)))), .blk (cellsI .i64 v9), .room (γ8a)]⟩ (AWp.reg Try.tyOk hΓ (keep := [143]) (dead := []) (by kernel_rfl) rfl (by simp)) ?_
                        refine AWp.seq ?_
                        refine AWp.cond (b := (ltI s10 (minI (lenL x1) 5))) (by simp) (fun h112 => ?_) (fun h112 => ?_)
                        · have hr := cond_t h112 hr
                          refine AWp.skip ?_
                          refine AWp.seq ?_
                          refine AWp.block ?_
                          refine AWp.then ⟨[⟨19, none, .lit (.int .i64 s10)⟩, ⟨141, none, .lit (.int .i64 (minI (lenL x1) 5))⟩, ⟨142, none, .lit (.int .i64 s10)⟩, ⟨14, none, .lit (.int .i64 s6.1)⟩, ⟨13, none, .slb 5 (minI (lenL x1) 5)⟩, ⟨12, none, .slb 4 (minI (lenL x1) 5)⟩, ⟨10, none, .sl (v5.1.map (eNum .i64)) (.own 3 (γ5a) 1)⟩, ⟨9, none, .lit (.int .i64 (minI (lenL x1) 5))⟩, ⟨7, none, .ptr 2 0⟩, ⟨0, none, .lit (.int .i64 (addI .i64 1 (bitsOp .and .i64 x0 63)))⟩, ⟨2, none, .sl (x2.map (eNum .i64)) .no⟩], [.mapo (encM (kI .i64) (kI .i64) r5.fShare), .mapo (encM (kI .i64) (kI .i64) r5.fLeft), .blk [.lit (.int .i64 r5.fMost), .mp 0, .mp 1, .lit (.int .i64 r5.fAt), .lit (.bool r5.fGranted)], .room (γ5a), .blk (cellsI .i64 (setI s6.2.2.2.2.2.2.1 r4.1 (addI .i64 (nthI s6.2.2.2.2.2.2.1 r4.1) ((nthI v8 r4.1).fSize)))), .blk (cellsI .i64 v9), .room (γ8a)]⟩ (AWp.reg Try.tyOk hΓ (keep := [19]) (dead := [143]) (by kernel_rfl) rfl (by simp [h112])) ?_
                          refine AWp.then ⟨[⟨145, none, .lit (.int .i64 (minI (lenL x1) 5))⟩, ⟨146, none, .lit (.int .i64 0)⟩, ⟨19, none, .lit (.int .i64 s10)⟩, ⟨141, none, .lit (.int .i64 (minI (lenL x1) 5))⟩, ⟨142, none, .lit (.int .i64 s10)⟩, ⟨14, none, .lit (.int .i64 s6.1)⟩, ⟨13, none, .slb 5 (minI (lenL x1) 5)⟩, ⟨12, none, .slb 4 (minI (lenL x1) 5)⟩, ⟨10, none, .sl (v5.1.map (eNum .i64)) (.own 3 (γ5a) 1)⟩, ⟨9, none, .lit (.int .i64 (minI (lenL x1) 5))⟩, ⟨7, none, .ptr 2 0⟩, ⟨0, none, .lit (.int .i64 (addI .i64 1 (bitsOp .and .i64 x0 63)))⟩, ⟨2, none, .sl (x2.map (eNum .i64)) .no⟩], [.mapo (encM (kI .i64) (kI .i64) r5.fShare), .mapo (encM (kI .i64) (kI .i64) r5.fLeft), .blk [.lit (.int .i64 r5.fMost), .mp 0, .mp 1, .lit (.int .i64 r5.fAt), .lit (.bool r5.fGranted)], .room (γ5a), .blk (cellsI .i64 (setI s6.2.2.2.2.2.2.1 r4.1 (addI .i64 (nthI s6.2.2.2.2.2.2.1 r4.1) ((nthI v8 r4.1).fSize)))), .blk (cellsI .i64 v9), .room (γ8a)]⟩ (AWp.reg Try.tyOk hΓ (keep := [145, 146]) (dead := []) (by kernel_rfl) rfl (by simp)) ?_
                          refine AWp.loopE (fun (s11 : Int) (γ11 : Unit) => ⟨[⟨145, none, .lit (.int .i64 (minI (lenL x1) 5))⟩, ⟨146, none, .lit (.int .i64 s11)⟩, ⟨19, none, .lit (.int .i64 s10)⟩, ⟨141, none, .lit (.int .i64 (minI (lenL x1) 5))⟩, ⟨142, none, .lit (.int .i64 s10)⟩, ⟨14, none, .lit (.int .i64 s6.1)⟩, ⟨13, none, .slb 5 (minI (lenL x1) 5)⟩, ⟨12, none, .slb 4 (minI (lenL x1) 5)⟩, ⟨10, none, .sl (v5.1.map (eNum .i64)) (.own 3 (γ5a) 1)⟩, ⟨9, none, .lit (.int .i64 (minI (lenL x1) 5))⟩, ⟨7, none, .ptr 2 0⟩, ⟨0, none, .lit (.int .i64 (addI .i64 1 (bitsOp .and .i64 x0 63)))⟩, ⟨2, none, .sl (x2.map (eNum .i64)) .no⟩], [.mapo (encM (kI .i64) (kI .i64) r5.fShare), .mapo (encM (kI .i64) (kI .i64) r5.fLeft), .blk [.lit (.int .i64 r5.fMost), .mp 0, .mp 1, .lit (.int .i64 r5.fAt), .lit (.bool r5.fGranted)], .room (γ5a), .blk (cellsI .i64 (setI s6.2.2.2.2.2.2.1 r4.1 (addI .i64 (nthI s6.2.2.2.2.2.2.1 r4.1) ((nthI v8 r4.1).fSize)))), .blk (cellsI .i64 v9), .room (γ8a)]⟩) (fun (v11 : Unit) (γ11a : Unit) => ⟨[⟨141, none, .lit (.int .i64 (minI (lenL x1) 5))⟩, ⟨142, none, .lit (.int .i64 s10)⟩, ⟨14, none, .lit (.int .i64 s6.1)⟩, ⟨13, none, .slb 5 (minI (lenL x1) 5)⟩, ⟨12, none, .slb 4 (minI (lenL x1) 5)⟩, ⟨10, none, .sl (v5.1.map (eNum .i64)) (.own 3 (γ5a) 1)⟩, ⟨9, none, .lit (.int .i64 (minI (lenL x1) 5))⟩, ⟨7, none, .ptr 2 0⟩, ⟨0, none, .lit (.int .i64 (addI .i64 1 (bitsOp .and .i64 x0 63)))⟩, ⟨2, none, .sl (x2.map (eNum .i64)) .no⟩], [.mapo (encM (kI .i64) (kI .i64) r5.fShare), .mapo (encM (kI .i64) (kI .i64) r5.fLeft), .blk [.lit (.int .i64 r5.fMost), .mp 0, .mp 1, .lit (.int .i64 r5.fAt), .lit (.bool r5.fGranted)], .room (γ5a), .blk (cellsI .i64 (setI s6.2.2.2.2.2.2.1 r4.1 (addI .i64 (nthI s6.2.2.2.2.2.2.1 r4.1) ((nthI v8 r4.1).fSize)))), .blk (cellsI .i64 v9), .room (γ8a)]⟩) (QRr (QRm (QRr (gLaw19DrrFair.fin x0 x1 x2)))) hr () 7 (by simp) (fun s11 f γ11 hr => ?_) (fun v11 γ11a σ1 m1 hr hc => ?_) (fun _ h => QRr_ret h)
                          · unfold gLaw19DrrFair.loop11 at hr
                            refine AWp.then ⟨[⟨147, none, .lit (.bool (ltI s11 (minI (lenL x1) 5)))⟩, ⟨145, none, .lit (.int .i64 (minI (lenL x1) 5))⟩, ⟨146, none, .lit (.int .i64 s11)⟩, ⟨19, none, .lit (.int .i64 s10)⟩, ⟨141, none, .lit (.int .i64 (minI (lenL x1) 5))⟩, ⟨142, none, .lit (.int .i64 s10)⟩, ⟨14, none, .lit (.int .i64 s6.1)⟩, ⟨13, none, .slb 5 (minI (lenL x1) 5)⟩, ⟨12, none, .slb 4 (minI (lenL x1) 5)⟩, ⟨10, none, .sl (v5.1.map (eNum .i64)) (.own 3 (γ5a) 1)⟩, ⟨9, none, .lit (.int .i64 (minI (lenL x1) 5))⟩, ⟨7, none, .ptr 2 0⟩, ⟨0, none, .lit (.int .i64 (addI .i64 1 (bitsOp .and .i64 x0 63)))⟩, ⟨2, none, .sl (x2.map (eNum .i64)) .no⟩], [.mapo (encM (kI .i64) (kI .i64) r5.fShare), .mapo (encM (kI .i64) (kI .i64) r5.fLeft), .blk [.lit (.int .i64 r5.fMost), .mp 0, .mp 1, .lit (.int .i64 r5.fAt), .lit (.bool r5.fGranted)], .room (γ5a), .blk (cellsI .i64 (setI s6.2.2.2.2.2.2.1 r4.1 (addI .i64 (nthI s6.2.2.2.2.2.2.1 r4.1) ((nthI v8 r4.1).fSize)))), .blk (cellsI .i64 v9), .room (γ8a)]⟩ (AWp.reg Try.tyOk hΓ (keep := [147]) (dead := []) (by kernel_rfl) rfl (by simp)) ?_
                            refine AWp.seq ?_
                            refine AWp.cond (b := (ltI s11 (minI (lenL x1) 5))) (by simp) (fun h113 => ?_) (fun h113 => ?_)
                            · have hr := cond_t h113 hr
                              refine AWp.skip ?_
                              refine AWp.seq ?_
                              refine AWp.block ?_
                              refine AWp.then ⟨[⟨20, none, .lit (.int .i64 s11)⟩, ⟨145, none, .lit (.int .i64 (minI (lenL x1) 5))⟩, ⟨146, none, .lit (.int .i64 s11)⟩, ⟨19, none, .lit (.int .i64 s10)⟩, ⟨141, none, .lit (.int .i64 (minI (lenL x1) 5))⟩, ⟨142, none, .lit (.int .i64 s10)⟩, ⟨14, none, .lit (.int .i64 s6.1)⟩, ⟨13, none, .slb 5 (minI (lenL x1) 5)⟩, ⟨12, none, .slb 4 (minI (lenL x1) 5)⟩, ⟨10, none, .sl (v5.1.map (eNum .i64)) (.own 3 (γ5a) 1)⟩, ⟨9, none, .lit (.int .i64 (minI (lenL x1) 5))⟩, ⟨7, none, .ptr 2 0⟩, ⟨0, none, .lit (.int .i64 (addI .i64 1 (bitsOp .and .i64 x0 63)))⟩, ⟨2, none, .sl (x2.map (eNum .i64)) .no⟩], [.mapo (encM (kI .i64) (kI .i64) r5.fShare), .mapo (encM (kI .i64) (kI .i64) r5.fLeft), .blk [.lit (.int .i64 r5.fMost), .mp 0, .mp 1, .lit (.int .i64 r5.fAt), .lit (.bool r5.fGranted)], .room (γ5a), .blk (cellsI .i64 (setI s6.2.2.2.2.2.2.1 r4.1 (addI .i64 (nthI s6.2.2.2.2.2.2.1 r4.1) ((nthI v8 r4.1).fSize)))), .blk (cellsI .i64 v9), .room (γ8a)]⟩ (AWp.reg Try.tyOk hΓ (keep := [20]) (dead := [147]) (by kernel_rfl) rfl (by simp [h113])) ?_
                              obtain ⟨h114, hr⟩ := need_some hr
                              obtain ⟨h115, hr⟩ := need_some hr
                              obtain ⟨h116, hr⟩ := need_some hr
                              obtain ⟨h117, hr⟩ := need_some hr
                              obtain ⟨h118, hr⟩ := need_some hr
                              obtain ⟨h119, hr⟩ := need_some hr
                              obtain ⟨r6, h120, hr⟩ := bind_some' hr
                              obtain ⟨h121, hr⟩ := need_some hr
                              obtain ⟨h122, hr⟩ := need_some hr
                              obtain ⟨h123, hr⟩ := need_some hr
                              obtain ⟨h124, hr⟩ := need_some hr
                              obtain ⟨h125, hr⟩ := need_some hr
                              obtain ⟨h126, hr⟩ := need_some hr
                              obtain ⟨h127, hr⟩ := need_some hr
                              obtain ⟨h128, hr⟩ := need_some hr
                              obtain ⟨h129, hr⟩ := need_some hr
                              obtain ⟨h130, hr⟩ := need_some hr
                              obtain ⟨h131, hr⟩ := need_some hr
                              refine AWp.then ⟨[⟨202, none, .lit (.bool (pickB (notB r6) true (pickB (leqI 40 s6.1) (notB ((gLaw19Near (subI .i64 (nthI (setI s6.2.2.2.2.2.2.1 r4.1 (addI .i64 (nthI s6.2.2.2.2.2.2.1 r4.1) ((nthI v8 r4.1).fSize))) s10) (nthI v9 s10)) (subI .i64 (nthI (setI s6.2.2.2.2.2.2.1 r4.1 (addI .i64 (nthI s6.2.2.2.2.2.2.1 r4.1) ((nthI v8 r4.1).fSize))) s11) (nthI v9 s11)) (nthI v5.1 s10) (nthI v5.1 s11) (addI .i64 1 (bitsOp .and .i64 x0 63))).getD dflt)) false)))⟩, ⟨145, none, .lit (.int .i64 (minI (lenL x1) 5))⟩, ⟨146, none, .lit (.int .i64 s11)⟩, ⟨19, none, .lit (.int .i64 s10)⟩, ⟨141, none, .lit (.int .i64 (minI (lenL x1) 5))⟩, ⟨142, none, .lit (.int .i64 s10)⟩, ⟨14, none, .lit (.int .i64 s6.1)⟩, ⟨13, none, .slb 5 (minI (lenL x1) 5)⟩, ⟨12, none, .slb 4 (minI (lenL x1) 5)⟩, ⟨10, none, .sl (v5.1.map (eNum .i64)) (.own 3 (γ5a) 1)⟩, ⟨9, none, .lit (.int .i64 (minI (lenL x1) 5))⟩, ⟨7, none, .ptr 2 0⟩, ⟨0, none, .lit (.int .i64 (addI .i64 1 (bitsOp .and .i64 x0 63)))⟩, ⟨2, none, .sl (x2.map (eNum .i64)) .no⟩], [.mapo (encM (kI .i64) (kI .i64) r5.fShare), .mapo (encM (kI .i64) (kI .i64) r5.fLeft), .blk [.lit (.int .i64 r5.fMost), .mp 0, .mp 1, .lit (.int .i64 r5.fAt), .lit (.bool r5.fGranted)], .room (γ5a), .blk (cellsI .i64 (setI s6.2.2.2.2.2.2.1 r4.1 (addI .i64 (nthI s6.2.2.2.2.2.2.1 r4.1) ((nthI v8 r4.1).fSize)))), .blk (cellsI .i64 v9), .room (γ8a)]⟩ (AWp.regD Try.mixed Try.tyOk hΓ (keep := [202]) (dead := [20]) [] [(false, []), (false, []), (false, []), (false, []), (false, []), (false, []), (false, []), (false, []), (false, []), (false, []), (false, []), (false, []), (false, []), (false, []), (false, []), (false, []), (false, []), (false, []), (false, []), (false, []), (false, [168]), (false, [168]), (false, [168]), (false, [171, 168]), (false, [171, 168]), (false, [171, 168]), (false, [171, 168]), (false, [171, 168]), (false, [171, 168]), (false, [171, 168]), (false, [171, 168]), (false, [171, 168]), (false, [171, 168]), (false, [171, 168]), (false, [171, 168]), (false, [171, 168]), (false, [171, 168]), (false, [171, 168]), (false, [171, 168]), (false, [171, 168]), (false, [171, 168]), (false, [171, 168]), (false, [171, 168]), (false, [171, 168]), (false, [171, 168]), (false, [171, 168]), (false, [171, 168]), (false, [171, 168]), (false, [171, 168]), (false, [171, 168]), (false, [171, 168]), (false, [171, 168]), (false, [168]), (false, [])] (by kernel_rfl) rfl (by simp [h114, h115, h116, h117, h118, h119, h120, h124, h128, h131])) ?_
                              refine AWp.cond (b := (pickB (notB r6) true (pickB (leqI 40 s6.1) (notB ((gLaw19Near (subI .i64 (nthI (setI s6.2.2.2.2.2.2.1 r4.1 (addI .i64 (nthI s6.2.2.2.2.2.2.1 r4.1) ((nthI v8 r4.1).fSize))) s10) (nthI v9 s10)) (subI .i64 (nthI (setI s6.2.2.2.2.2.2.1 r4.1 (addI .i64 (nthI s6.2.2.2.2.2.2.1 r4.1) ((nthI v8 r4.1).fSize))) s11) (nthI v9 s11)) (nthI v5.1 s10) (nthI v5.1 s11) (addI .i64 1 (bitsOp .and .i64 x0 63))).getD dflt)) false))) (by simp) (fun h132 => ?_) (fun h132 => ?_)
                              · have hr := cond_t h132 hr
                                refine AWp.then ⟨[⟨6, none, .lit (.bool false)⟩], [.mapo (encM (kI .i64) (kI .i64) r5.fShare), .mapo (encM (kI .i64) (kI .i64) r5.fLeft), .blk [.lit (.int .i64 r5.fMost), .mp 0, .mp 1, .lit (.int .i64 r5.fAt), .lit (.bool r5.fGranted)], .room (γ5a), .blk (cellsI .i64 (setI s6.2.2.2.2.2.2.1 r4.1 (addI .i64 (nthI s6.2.2.2.2.2.2.1 r4.1) ((nthI v8 r4.1).fSize)))), .blk (cellsI .i64 v9), .room (γ8a)]⟩ (AWp.reg Try.tyOk hΓ (keep := [6]) (dead := [202, 145, 146, 19, 141, 142, 14, 13, 12, 10, 9, 7, 0, 2]) (by kernel_rfl) rfl (by simp [h132])) ?_
                                refine AWp.ret ?_
                                obtain rfl := some_inj hr
                                refine round_ret ?_
                                refine ⟨_, rfl, ?_⟩
                                refine ⟨_, rfl, ?_⟩
                                refine ⟨_, rfl, ?_⟩
                                refine fin_ret ?_
                                simp
                              · have hr := cond_f h132 hr
                                refine AWp.skip ?_
                                refine AWp.last ⟨[⟨146, none, .lit (.int .i64 (addI .i64 s11 1))⟩, ⟨145, none, .lit (.int .i64 (minI (lenL x1) 5))⟩, ⟨19, none, .lit (.int .i64 s10)⟩, ⟨141, none, .lit (.int .i64 (minI (lenL x1) 5))⟩, ⟨142, none, .lit (.int .i64 s10)⟩, ⟨14, none, .lit (.int .i64 s6.1)⟩, ⟨13, none, .slb 5 (minI (lenL x1) 5)⟩, ⟨12, none, .slb 4 (minI (lenL x1) 5)⟩, ⟨10, none, .sl (v5.1.map (eNum .i64)) (.own 3 (γ5a) 1)⟩, ⟨9, none, .lit (.int .i64 (minI (lenL x1) 5))⟩, ⟨7, none, .ptr 2 0⟩, ⟨0, none, .lit (.int .i64 (addI .i64 1 (bitsOp .and .i64 x0 63)))⟩, ⟨2, none, .sl (x2.map (eNum .i64)) .no⟩], [.mapo (encM (kI .i64) (kI .i64) r5.fShare), .mapo (encM (kI .i64) (kI .i64) r5.fLeft), .blk [.lit (.int .i64 r5.fMost), .mp 0, .mp 1, .lit (.int .i64 r5.fAt), .lit (.bool r5.fGranted)], .room (γ5a), .blk (cellsI .i64 (setI s6.2.2.2.2.2.2.1 r4.1 (addI .i64 (nthI s6.2.2.2.2.2.2.1 r4.1) ((nthI v8 r4.1).fSize)))), .blk (cellsI .i64 v9), .room (γ8a)]⟩ (AWp.reg Try.tyOk hΓ (keep := [146]) (dead := [202]) (by kernel_rfl) rfl (by simp [h132])) ?_
                                obtain rfl := some_inj hr
                                exact round_go () 7 (by first | (simp; done) | simp [h67, h68, h83, h84, h91, h92, h93, h94, h100, h101, h102, h103, h104, h105, h106, h107, h108, h112, h113, h114, h115, h116, h117, h118, h119, h120, h121, h122, h123, h124, h125, h126, h127, h128, h129, h130, h131, h132])
                            · have hr := cond_f h113 hr
                              refine AWp.exit ?_
                              obtain rfl := some_inj hr
                              exact round_out () 7 (by first | (simp; done) | simp [h67, h68, h83, h84, h91, h92, h93, h94, h100, h101, h102, h103, h104, h105, h106, h107, h108, h112, h113])
                          · refine AWp.conv hc ?_
                            refine AWp.last ⟨[⟨142, none, .lit (.int .i64 (addI .i64 s10 1))⟩, ⟨141, none, .lit (.int .i64 (minI (lenL x1) 5))⟩, ⟨14, none, .lit (.int .i64 s6.1)⟩, ⟨13, none, .slb 5 (minI (lenL x1) 5)⟩, ⟨12, none, .slb 4 (minI (lenL x1) 5)⟩, ⟨10, none, .sl (v5.1.map (eNum .i64)) (.own 3 (γ5a) 1)⟩, ⟨9, none, .lit (.int .i64 (minI (lenL x1) 5))⟩, ⟨7, none, .ptr 2 0⟩, ⟨0, none, .lit (.int .i64 (addI .i64 1 (bitsOp .and .i64 x0 63)))⟩, ⟨2, none, .sl (x2.map (eNum .i64)) .no⟩], [.mapo (encM (kI .i64) (kI .i64) r5.fShare), .mapo (encM (kI .i64) (kI .i64) r5.fLeft), .blk [.lit (.int .i64 r5.fMost), .mp 0, .mp 1, .lit (.int .i64 r5.fAt), .lit (.bool r5.fGranted)], .room (γ5a), .blk (cellsI .i64 (setI s6.2.2.2.2.2.2.1 r4.1 (addI .i64 (nthI s6.2.2.2.2.2.2.1 r4.1) ((nthI v8 r4.1).fSize)))), .blk (cellsI .i64 v9), .room (γ8a)]⟩ (AWp.reg Try.tyOk hΓ (keep := [142]) (dead := []) (by kernel_rfl) rfl (by simp)) ?_
                            obtain rfl := some_inj hr
                            exact round_go () 7 (by first | (simp; done) | simp [h67, h68, h83, h84, h91, h92, h93, h94, h100, h101, h102, h103, h104, h105, h106, h107, h108, h112])
                        · have hr := cond_f h112 hr
                          refine AWp.exit ?_
                          obtain rfl := some_inj hr
                          exact round_out () 7 (by first | (simp; done) | simp [h67, h68, h83, h84, h91, h92, h93, h94, h100, h101, h102, h103, h104, h105, h106, h107, h108, h112])
                      · obtain rfl := some_inj hr
                        exact meet_go () 6 (Conv.trans hc (by first | (simp; done) | simp [h67, h68, h83, h84, h91, h92, h93, h94, h100, h101, h102, h103, h104, h105, h106, h107, h108]))
              · refine AWp.last ⟨[⟨14, none, .lit (.int .i64 (addI .i64 s6.1 1))⟩, ⟨13, none, .slb 5 (minI (lenL x1) 5)⟩, ⟨12, none, .slb 4 (minI (lenL x1) 5)⟩, ⟨10, none, .sl (v5.1.map (eNum .i64)) (.own 3 (γ5a) 1)⟩, ⟨9, none, .lit (.int .i64 (minI (lenL x1) 5))⟩, ⟨7, none, .ptr 2 0⟩, ⟨0, none, .lit (.int .i64 (addI .i64 1 (bitsOp .and .i64 x0 63)))⟩, ⟨2, none, .sl (x2.map (eNum .i64)) .no⟩], [.mapo (encM (kI .i64) (kI .i64) v7.1), .mapo (encM (kI .i64) (kI .i64) v7.2.1), .blk [.lit (.int .i64 v7.2.2.1), .mp 0, .mp 1, .lit (.int .i64 v7.2.2.2.1), .lit (.bool v7.2.2.2.2.1)], .room (γ5a), .blk (cellsI .i64 v7.2.2.2.2.2.1), .blk (cellsI .i64 v7.2.2.2.2.2.2)]⟩ (AWp.reg Try.tyOk hΓ (keep := [14]) (dead := []) (by kernel_rfl) rfl (by simp)) ?_
                obtain rfl := some_inj hr
                exact round_go () 6 (by first | (simp; done) | simp [h67, h68, h83, h84, h91, h92, h93, h94])
            · have hr := cond_f h94 hr
              refine AWp.exit ?_
              obtain rfl := some_inj hr
              exact round_out () 6 (by first | (simp; done) | simp [h67, h68, h83, h84, h91, h92, h93, h94])
          · refine AWp.conv hc ?_
            refine AWp.then ⟨[⟨6, none, .lit (.bool true)⟩], [.mapo (encM (kI .i64) (kI .i64) v6.1), .mapo (encM (kI .i64) (kI .i64) v6.2.1), .blk [.lit (.int .i64 v6.2.2.1), .mp 0, .mp 1, .lit (.int .i64 v6.2.2.2.1), .lit (.bool v6.2.2.2.2.1)], .room (γ5a), .blk (cellsI .i64 v6.2.2.2.2.2.1), .blk (cellsI .i64 v6.2.2.2.2.2.2)]⟩ (AWp.reg Try.tyOk hΓ (keep := [6]) (dead := []) (by kernel_rfl) rfl (by simp)) ?_
            refine AWp.ret ?_
            obtain rfl := some_inj hr
            refine fin_ret ?_
            simp

@[simp] noncomputable def gLaw19DrrFair.S : Sp
  | [.lit (.int .i64 x0), .sl e1 _, .sl e2 _], _ => some { av := .lit (.bool ((gLaw19DrrFair x0 (e1.map decI) (e2.map decI)).getD dflt)), M := none, obl := e1 = (e1.map decI).map (eNum .i64) ∧ e2 = (e2.map decI).map (eNum .i64) ∧ (gLaw19DrrFair x0 (e1.map decI) (e2.map decI)).isSome = true }
  | _, _ => none

set_option maxHeartbeats 1000000 in
theorem gLaw19DrrFair.ok : SpecOk Try.prog 3 gLaw19DrrFair.S := by
  intro l M out h
  unfold gLaw19DrrFair.S at h
  split at h
  · rename_i x0 e1 k1 e2 k2
    cases h
    refine callOk_of fun ho => ?_
    obtain ⟨ox1, ox2, hs⟩ := ho
    generalize (e1.map decI) = x1 at *
    generalize (e2.map decI) = x2 at *
    subst ox1
    subst ox2
    obtain ⟨r, hr⟩ := Option.isSome_iff_exists.1 hs
    simp only [hr, Option.getD_some]
    have q := call_frame (M := M) [] (gLaw19DrrFair.can x0 x1 x2 r hr) (by simp) rfl (by intro k i hk; simp at hk)
    exact callOk_conv q trivial (by simp) (by simp [frameOut, gLaw19DrrFair.out]) (by simp [frameOut, gLaw19DrrFair.out])
  · cases h
end Go.Proofs
