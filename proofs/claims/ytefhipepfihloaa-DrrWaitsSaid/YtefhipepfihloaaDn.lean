/- That these functions compute what their plain functions do. No condition. -/
import Derived.Test.YtefhipepfihloaaDnD
import Derived.Test.YtefhipepfihloaaTy
import Derived.Test.YtefhipepfihloaaDc
import Derived.Test.YtefhipepfihloaaDa
namespace Go.Proofs
open Go.Ab
@[simp] theorem nthI_none (n : Int) : nthI ([] : List Int) n = 0 := by simp [nthI]
@[simp] def gLaw19DrrWaits.out (_x0 : Int) (_x1 : List Int) (_x2 : Int) (r : Bool) : Out := { av := .lit (.bool r), M := none }
def gLaw19DrrWaits.fin (x0 : Int) (x1 : List Int) (x2 : Int) (r : Bool) (σ : St) : Prop := finK (gLaw19DrrWaits.out x0 x1 x2 r) [] σ.M (resA Try.ty σ.A σ.M Try.f4.results.toList)
set_option maxHeartbeats 4000000 in
set_option maxRecDepth 100000 in
theorem gLaw19DrrWaits.can (x0 : Int) (x1 : List Int) (x2 : Int) (r : Bool) (hr : gLaw19DrrWaits x0 x1 x2 = some r) : CallOk Try.prog 4 [.lit (.int .i64 x0), .sl (x1.map (eNum .i64)) .no, .lit (.int .i64 x2)] [] (gLaw19DrrWaits.out x0 x1 x2 r) := by
  unfold gLaw19DrrWaits at hr
  have hΓ := (gamL_cons gDrrSchedAdd.ok (gamL_cons gDrrSchedChoose.ok (gamL_cons gDrrSchedTake.ok (gamL_cons gLaw19Awake.ok (gamL_cons gDrrNew.ok (gamL_nil))))) : GamOk Try.prog _)
  refine call_of_awp Try.tyOk Try.func4 rfl (by kernel_rfl) rfl rfl (by simp) ?_
  intro _ _ _
  refine AWp.then ⟨[⟨0, none, .lit (.int .i64 x0)⟩, ⟨1, none, .sl (x1.map (eNum .i64)) .no⟩, ⟨2, none, .lit (.int .i64 x2)⟩], []⟩ (AWp.reg Try.tyOk hΓ (keep := []) (dead := []) (by kernel_rfl) rfl (by simp)) ?_
  refine AWp.then ⟨[⟨0, none, .lit (.int .i64 (addI .i64 1 (bitsOp .and .i64 x0 63)))⟩, ⟨1, none, .sl (x1.map (eNum .i64)) .no⟩, ⟨2, none, .lit (.int .i64 x2)⟩], []⟩ (AWp.reg Try.tyOk hΓ (keep := [0]) (dead := []) (by kernel_rfl) rfl (by simp)) ?_
  obtain ⟨r1, h31, hr⟩ := bind_some' hr
  cases h32 : r1.1 with
  | none =>
    have hr := optC_n h32 hr
    refine AWp.then ⟨[⟨7, none, .lit (.pointer none)⟩, ⟨8, none, .lit (.int .i64 r1.2)⟩, ⟨0, none, .lit (.int .i64 (addI .i64 1 (bitsOp .and .i64 x0 63)))⟩, ⟨1, none, .sl (x1.map (eNum .i64)) .no⟩, ⟨2, none, .lit (.int .i64 x2)⟩], []⟩ (AWp.reg Try.tyOk hΓ (keep := [7, 8]) (dead := []) (by kernel_rfl) rfl (by simp [h31, h32])) ?_
    refine AWp.seq ?_
    obtain ⟨r2, h33, hr⟩ := bind_some' hr
    refine AWp.then ⟨[⟨31, none, .lit (.bool (pickB (notB r2) true (neI r1.2 0)))⟩, ⟨7, none, .lit (.pointer none)⟩, ⟨0, none, .lit (.int .i64 (addI .i64 1 (bitsOp .and .i64 x0 63)))⟩, ⟨1, none, .sl (x1.map (eNum .i64)) .no⟩, ⟨2, none, .lit (.int .i64 x2)⟩], []⟩ (AWp.reg Try.tyOk hΓ (keep := [31]) (dead := [8]) (by kernel_rfl) rfl (by simp [h33])) ?_
    refine AWp.cond (b := (pickB (notB r2) true (neI r1.2 0))) (by simp) (fun h34 => ?_) (fun h34 => ?_)
    · have hr := cond_t h34 hr
      refine AWp.then ⟨[⟨6, none, .lit (.bool false)⟩], []⟩ (AWp.reg Try.tyOk hΓ (keep := [6]) (dead := [31, 7, 0, 1, 2]) (by kernel_rfl) rfl (by simp [h34])) ?_
      refine AWp.ret ?_
      obtain rfl := some_inj hr
      refine fin_ret ?_
      simp
    · have hr := cond_f h34 hr
      refine AWp.skip ?_
      refine AWp.then ⟨[⟨9, none, .lit (.int .i64 (minI (lenL x1) 6))⟩, ⟨7, none, .lit (.pointer none)⟩, ⟨0, none, .lit (.int .i64 (addI .i64 1 (bitsOp .and .i64 x0 63)))⟩, ⟨1, none, .sl (x1.map (eNum .i64)) .no⟩, ⟨2, none, .lit (.int .i64 x2)⟩], []⟩ (AWp.reg Try.tyOk hΓ (keep := [9]) (dead := [31]) (by kernel_rfl) rfl (by simp [h34])) ?_
      refine AWp.then ⟨[⟨10, none, .sl [] .full⟩, ⟨9, none, .lit (.int .i64 (minI (lenL x1) 6))⟩, ⟨7, none, .lit (.pointer none)⟩, ⟨0, none, .lit (.int .i64 (addI .i64 1 (bitsOp .and .i64 x0 63)))⟩, ⟨1, none, .sl (x1.map (eNum .i64)) .no⟩, ⟨2, none, .lit (.int .i64 x2)⟩], []⟩ (AWp.reg Try.tyOk hΓ (keep := [10]) (dead := []) (by kernel_rfl) rfl (by simp)) ?_
      refine AWp.seq ?_
      refine AWp.then ⟨[⟨35, none, .lit (.int .i64 (minI (lenL x1) 6))⟩, ⟨36, none, .lit (.int .i64 0)⟩, ⟨10, none, .sl [] .full⟩, ⟨9, none, .lit (.int .i64 (minI (lenL x1) 6))⟩, ⟨7, none, .lit (.pointer none)⟩, ⟨0, none, .lit (.int .i64 (addI .i64 1 (bitsOp .and .i64 x0 63)))⟩, ⟨1, none, .sl (x1.map (eNum .i64)) .no⟩, ⟨2, none, .lit (.int .i64 x2)⟩], []⟩ (AWp.reg Try.tyOk hΓ (keep := [35, 36]) (dead := []) (by kernel_rfl) rfl (by simp)) ?_
      refine AWp.loopE (fun (s1 : Unit) (γ1 : Unit) => ⟨[⟨35, none, .lit (.int .i64 (minI (lenL x1) 6))⟩, ⟨36, none, .lit (.int .i64 0)⟩, ⟨10, none, .sl [] .full⟩, ⟨9, none, .lit (.int .i64 (minI (lenL x1) 6))⟩, ⟨7, none, .lit (.pointer none)⟩, ⟨0, none, .lit (.int .i64 (addI .i64 1 (bitsOp .and .i64 x0 63)))⟩, ⟨1, none, .sl (x1.map (eNum .i64)) .no⟩, ⟨2, none, .lit (.int .i64 x2)⟩], []⟩) (fun (v1 : Unit) (γ1a : Unit) => ⟨[⟨10, none, .sl [] .full⟩, ⟨9, none, .lit (.int .i64 (minI (lenL x1) 6))⟩, ⟨7, none, .lit (.pointer none)⟩, ⟨0, none, .lit (.int .i64 (addI .i64 1 (bitsOp .and .i64 x0 63)))⟩, ⟨2, none, .lit (.int .i64 x2)⟩], []⟩) (gLaw19DrrWaits.fin x0 x1 x2) hr () 0 (by simp) (fun s1 f γ1 hr => ?_) (fun v1 γ1a σ1 m1 hr hc => ?_) (fun _ h => h)
      · unfold gLaw19DrrWaits.loop1 at hr
        refine AWp.then ⟨[⟨37, none, .lit (.bool (ltI 0 (minI (lenL x1) 6)))⟩, ⟨35, none, .lit (.int .i64 (minI (lenL x1) 6))⟩, ⟨36, none, .lit (.int .i64 0)⟩, ⟨10, none, .sl [] .full⟩, ⟨9, none, .lit (.int .i64 (minI (lenL x1) 6))⟩, ⟨7, none, .lit (.pointer none)⟩, ⟨0, none, .lit (.int .i64 (addI .i64 1 (bitsOp .and .i64 x0 63)))⟩, ⟨1, none, .sl (x1.map (eNum .i64)) .no⟩, ⟨2, none, .lit (.int .i64 x2)⟩], []⟩ (AWp.reg Try.tyOk hΓ (keep := [37]) (dead := []) (by kernel_rfl) rfl (by simp)) ?_
        refine AWp.seq ?_
        refine AWp.cond (b := (ltI 0 (minI (lenL x1) 6))) (by simp) (fun h35 => ?_) (fun h35 => ?_)
        · have hr := cond_t h35 hr
          refine AWp.skip ?_
          refine AWp.seq ?_
          refine AWp.block ?_
          refine AWp.then ⟨[⟨11, none, .lit (.int .i64 0)⟩, ⟨35, none, .lit (.int .i64 (minI (lenL x1) 6))⟩, ⟨36, none, .lit (.int .i64 0)⟩, ⟨10, none, .sl [] .full⟩, ⟨9, none, .lit (.int .i64 (minI (lenL x1) 6))⟩, ⟨7, none, .lit (.pointer none)⟩, ⟨0, none, .lit (.int .i64 (addI .i64 1 (bitsOp .and .i64 x0 63)))⟩, ⟨1, none, .sl (x1.map (eNum .i64)) .no⟩, ⟨2, none, .lit (.int .i64 x2)⟩], []⟩ (AWp.reg Try.tyOk hΓ (keep := [11]) (dead := [37]) (by kernel_rfl) rfl (by simp [h35])) ?_
          refine AWp.seq ?_
          refine AWp.seq ?_
          cases hr
        · have hr := cond_f h35 hr
          refine AWp.exit ?_
          obtain rfl := some_inj hr
          exact round_out () 0 (by simp)
      · refine AWp.conv hc ?_
        refine AWp.then ⟨[⟨12, none, .lit (.int .i64 (-1))⟩, ⟨13, none, .sl [] .full⟩, ⟨10, none, .sl [] .full⟩, ⟨9, none, .lit (.int .i64 (minI (lenL x1) 6))⟩, ⟨7, none, .lit (.pointer none)⟩, ⟨0, none, .lit (.int .i64 (addI .i64 1 (bitsOp .and .i64 x0 63)))⟩, ⟨2, none, .lit (.int .i64 x2)⟩], []⟩ (AWp.reg Try.tyOk hΓ (keep := [12, 13]) (dead := []) (by kernel_rfl) rfl (by simp)) ?_
        refine AWp.seq ?_
        refine AWp.then ⟨[⟨60, none, .lit (.int .i64 (minI (maxI x2 0) 200))⟩, ⟨61, none, .lit (.int .i64 0)⟩, ⟨12, none, .lit (.int .i64 (-1))⟩, ⟨13, none, .sl [] .full⟩, ⟨10, none, .sl [] .full⟩, ⟨9, none, .lit (.int .i64 (minI (lenL x1) 6))⟩, ⟨7, none, .lit (.pointer none)⟩, ⟨0, none, .lit (.int .i64 (addI .i64 1 (bitsOp .and .i64 x0 63)))⟩], []⟩ (AWp.reg Try.tyOk hΓ (keep := [60, 61]) (dead := [2]) (by kernel_rfl) rfl (by simp)) ?_
        refine AWp.loopE (fun (s2 : Unit) (γ2 : Unit) => ⟨[⟨60, none, .lit (.int .i64 (minI (maxI x2 0) 200))⟩, ⟨61, none, .lit (.int .i64 0)⟩, ⟨12, none, .lit (.int .i64 (-1))⟩, ⟨13, none, .sl [] .full⟩, ⟨10, none, .sl [] .full⟩, ⟨9, none, .lit (.int .i64 (minI (lenL x1) 6))⟩, ⟨7, none, .lit (.pointer none)⟩, ⟨0, none, .lit (.int .i64 (addI .i64 1 (bitsOp .and .i64 x0 63)))⟩], []⟩) (fun (v2 : Unit) (γ2a : Unit) => ⟨[⟨13, none, .sl [] .full⟩, ⟨9, none, .lit (.int .i64 (minI (lenL x1) 6))⟩], []⟩) (gLaw19DrrWaits.fin x0 x1 x2) hr () 0 (by simp) (fun s2 f γ2 hr => ?_) (fun v2 γ2a σ1 m1 hr hc => ?_) (fun _ h => h)
        · unfold gLaw19DrrWaits.loop2 at hr
          refine AWp.then ⟨[⟨62, none, .lit (.bool (ltI 0 (minI (maxI x2 0) 200)))⟩, ⟨60, none, .lit (.int .i64 (minI (maxI x2 0) 200))⟩, ⟨61, none, .lit (.int .i64 0)⟩, ⟨12, none, .lit (.int .i64 (-1))⟩, ⟨13, none, .sl [] .full⟩, ⟨10, none, .sl [] .full⟩, ⟨9, none, .lit (.int .i64 (minI (lenL x1) 6))⟩, ⟨7, none, .lit (.pointer none)⟩, ⟨0, none, .lit (.int .i64 (addI .i64 1 (bitsOp .and .i64 x0 63)))⟩], []⟩ (AWp.reg Try.tyOk hΓ (keep := [62]) (dead := []) (by kernel_rfl) rfl (by simp)) ?_
          refine AWp.seq ?_
          refine AWp.cond (b := (ltI 0 (minI (maxI x2 0) 200))) (by simp) (fun h36 => ?_) (fun h36 => ?_)
          · have hr := cond_t h36 hr
            refine AWp.skip ?_
            refine AWp.seq ?_
            refine AWp.block ?_
            refine AWp.seq ?_
            cases hr
          · have hr := cond_f h36 hr
            refine AWp.exit ?_
            obtain rfl := some_inj hr
            exact round_out () 0 (by simp)
        · refine AWp.conv hc ?_
          refine AWp.seq ?_
          refine AWp.then ⟨[⟨87, none, .sl [] .full⟩, ⟨88, none, .lit (.int .i64 0)⟩, ⟨89, none, .lit (.int .i64 0)⟩, ⟨13, none, .sl [] .full⟩, ⟨9, none, .lit (.int .i64 (minI (lenL x1) 6))⟩], []⟩ (AWp.reg Try.tyOk hΓ (keep := [87, 88, 89]) (dead := []) (by kernel_rfl) rfl (by simp)) ?_
          refine AWp.loopE (fun (s3 : Int) (γ3 : Unit) => ⟨[⟨87, none, .sl [] .full⟩, ⟨88, none, .lit (.int .i64 0)⟩, ⟨89, none, .lit (.int .i64 s3)⟩, ⟨13, none, .sl [] .full⟩, ⟨9, none, .lit (.int .i64 (minI (lenL x1) 6))⟩], []⟩) (fun (v3 : Unit) (γ3a : Unit) => ⟨[], []⟩) (gLaw19DrrWaits.fin x0 x1 x2) hr () 0 (by simp) (fun s3 f γ3 hr => ?_) (fun v3 γ3a σ1 m1 hr hc => ?_) (fun _ h => h)
          · unfold gLaw19DrrWaits.loop3 at hr
            refine AWp.then ⟨[⟨90, none, .lit (.bool (ltI s3 0))⟩, ⟨87, none, .sl [] .full⟩, ⟨88, none, .lit (.int .i64 0)⟩, ⟨89, none, .lit (.int .i64 s3)⟩, ⟨13, none, .sl [] .full⟩, ⟨9, none, .lit (.int .i64 (minI (lenL x1) 6))⟩], []⟩ (AWp.reg Try.tyOk hΓ (keep := [90]) (dead := []) (by kernel_rfl) rfl (by simp)) ?_
            refine AWp.seq ?_
            refine AWp.cond (b := (ltI s3 0)) (by simp) (fun h37 => ?_) (fun h37 => ?_)
            · have hr := cond_t h37 hr
              refine AWp.skip ?_
              refine AWp.seq ?_
              refine AWp.block ?_
              obtain ⟨h38, hr⟩ := need_some hr
              refine AWp.then ⟨[⟨16, none, .lit (.int .i64 s3)⟩, ⟨17, none, .lit (.int .i64 (nthI [] s3))⟩, ⟨87, none, .sl [] .full⟩, ⟨88, none, .lit (.int .i64 0)⟩, ⟨89, none, .lit (.int .i64 s3)⟩, ⟨13, none, .sl [] .full⟩, ⟨9, none, .lit (.int .i64 (minI (lenL x1) 6))⟩], []⟩ (AWp.reg Try.tyOk hΓ (keep := [16, 17]) (dead := [90]) (by kernel_rfl) rfl (by simp [h37, h38])) ?_
              obtain ⟨h39, hr⟩ := need_some hr
              obtain ⟨h40, hr⟩ := need_some hr
              refine AWp.then ⟨[⟨107, none, .lit (.bool (pickB (ltI 0 s3) (neI (nthI [] s3) (remI (addI .i64 (nthI [] (subI .i64 s3 1)) 1) (minI (lenL x1) 6))) false))⟩, ⟨87, none, .sl [] .full⟩, ⟨88, none, .lit (.int .i64 0)⟩, ⟨89, none, .lit (.int .i64 s3)⟩, ⟨13, none, .sl [] .full⟩, ⟨9, none, .lit (.int .i64 (minI (lenL x1) 6))⟩], []⟩ (AWp.reg Try.tyOk hΓ (keep := [107]) (dead := [16, 17]) (by kernel_rfl) rfl (by simp [h39, h40])) ?_
              refine AWp.cond (b := (pickB (ltI 0 s3) (neI (nthI [] s3) (remI (addI .i64 (nthI [] (subI .i64 s3 1)) 1) (minI (lenL x1) 6))) false)) (by simp) (fun h41 => ?_) (fun h41 => ?_)
              · have hr := cond_t h41 hr
                refine AWp.then ⟨[⟨6, none, .lit (.bool false)⟩], []⟩ (AWp.reg Try.tyOk hΓ (keep := [6]) (dead := [107, 87, 88, 89, 13, 9]) (by kernel_rfl) rfl (by simp)) ?_
                refine AWp.ret ?_
                obtain rfl := some_inj hr
                refine round_ret ?_
                refine fin_ret ?_
                simp
              · have hr := cond_f h41 hr
                refine AWp.skip ?_
                refine AWp.last ⟨[⟨89, none, .lit (.int .i64 (addI .i64 s3 1))⟩, ⟨87, none, .sl [] .full⟩, ⟨88, none, .lit (.int .i64 0)⟩, ⟨13, none, .sl [] .full⟩, ⟨9, none, .lit (.int .i64 (minI (lenL x1) 6))⟩], []⟩ (AWp.reg Try.tyOk hΓ (keep := [89]) (dead := [107]) (by kernel_rfl) rfl (by simp)) ?_
                obtain rfl := some_inj hr
                exact round_go () 0 (by simp)
            · have hr := cond_f h37 hr
              refine AWp.exit ?_
              obtain rfl := some_inj hr
              exact round_out () 0 (by simp)
          · refine AWp.conv hc ?_
            refine AWp.then ⟨[⟨6, none, .lit (.bool true)⟩], []⟩ (AWp.reg Try.tyOk hΓ (keep := [6]) (dead := []) (by kernel_rfl) rfl (by simp)) ?_
            refine AWp.ret ?_
            obtain rfl := some_inj hr
            refine fin_ret ?_
            simp
  | some o1 =>
    have hr := optC_s h32 hr
    refine AWp.then ⟨[⟨7, none, .ptr 2 0⟩, ⟨8, none, .lit (.int .i64 r1.2)⟩, ⟨0, none, .lit (.int .i64 (addI .i64 1 (bitsOp .and .i64 x0 63)))⟩, ⟨1, none, .sl (x1.map (eNum .i64)) .no⟩, ⟨2, none, .lit (.int .i64 x2)⟩], [.mapo (encM (kI .i64) (kI .i64) o1.fShare), .mapo (encM (kI .i64) (kI .i64) o1.fLeft), .blk [.lit (.int .i64 o1.fMost), .mp 0, .mp 1, .lit (.int .i64 o1.fAt), .lit (.bool o1.fGranted)]]⟩ (AWp.reg Try.tyOk hΓ (keep := [7, 8]) (dead := []) (by kernel_rfl) rfl (by simp [h31, h32])) ?_
    refine AWp.seq ?_
    obtain ⟨r2, h42, hr⟩ := bind_some' hr
    refine AWp.then ⟨[⟨31, none, .lit (.bool (pickB (notB r2) true (neI r1.2 0)))⟩, ⟨7, none, .ptr 2 0⟩, ⟨0, none, .lit (.int .i64 (addI .i64 1 (bitsOp .and .i64 x0 63)))⟩, ⟨1, none, .sl (x1.map (eNum .i64)) .no⟩, ⟨2, none, .lit (.int .i64 x2)⟩], [.mapo (encM (kI .i64) (kI .i64) o1.fShare), .mapo (encM (kI .i64) (kI .i64) o1.fLeft), .blk [.lit (.int .i64 o1.fMost), .mp 0, .mp 1, .lit (.int .i64 o1.fAt), .lit (.bool o1.fGranted)]]⟩ (AWp.reg Try.tyOk hΓ (keep := [31]) (dead := [8]) (by kernel_rfl) rfl (by simp [h42])) ?_
    refine AWp.cond (b := (pickB (notB r2) true (neI r1.2 0))) (by simp) (fun h43 => ?_) (fun h43 => ?_)
    · have hr := cond_t h43 hr
      refine AWp.then ⟨[⟨6, none, .lit (.bool false)⟩], [.mapo (encM (kI .i64) (kI .i64) o1.fShare), .mapo (encM (kI .i64) (kI .i64) o1.fLeft), .blk [.lit (.int .i64 o1.fMost), .mp 0, .mp 1, .lit (.int .i64 o1.fAt), .lit (.bool o1.fGranted)]]⟩ (AWp.reg Try.tyOk hΓ (keep := [6]) (dead := [31, 7, 0, 1, 2]) (by kernel_rfl) rfl (by simp [h43])) ?_
      refine AWp.ret ?_
      obtain rfl := some_inj hr
      refine fin_ret ?_
      simp
    · have hr := cond_f h43 hr
      refine AWp.skip ?_
      refine AWp.then ⟨[⟨9, none, .lit (.int .i64 (minI (lenL x1) 6))⟩, ⟨7, none, .ptr 2 0⟩, ⟨0, none, .lit (.int .i64 (addI .i64 1 (bitsOp .and .i64 x0 63)))⟩, ⟨1, none, .sl (x1.map (eNum .i64)) .no⟩, ⟨2, none, .lit (.int .i64 x2)⟩], [.mapo (encM (kI .i64) (kI .i64) o1.fShare), .mapo (encM (kI .i64) (kI .i64) o1.fLeft), .blk [.lit (.int .i64 o1.fMost), .mp 0, .mp 1, .lit (.int .i64 o1.fAt), .lit (.bool o1.fGranted)]]⟩ (AWp.reg Try.tyOk hΓ (keep := [9]) (dead := [31]) (by kernel_rfl) rfl (by simp [h43])) ?_
      refine AWp.then ⟨[⟨10, none, .sl [] .full⟩, ⟨9, none, .lit (.int .i64 (minI (lenL x1) 6))⟩, ⟨7, none, .ptr 2 0⟩, ⟨0, none, .lit (.int .i64 (addI .i64 1 (bitsOp .and .i64 x0 63)))⟩, ⟨1, none, .sl (x1.map (eNum .i64)) .no⟩, ⟨2, none, .lit (.int .i64 x2)⟩], [.mapo (encM (kI .i64) (kI .i64) o1.fShare), .mapo (encM (kI .i64) (kI .i64) o1.fLeft), .blk [.lit (.int .i64 o1.fMost), .mp 0, .mp 1, .lit (.int .i64 o1.fAt), .lit (.bool o1.fGranted)]]⟩ (AWp.reg Try.tyOk hΓ (keep := [10]) (dead := []) (by kernel_rfl) rfl (by simp)) ?_
      refine AWp.seq ?_
      refine AWp.then ⟨[⟨35, none, .lit (.int .i64 (minI (lenL x1) 6))⟩, ⟨36, none, .lit (.int .i64 0)⟩, ⟨10, none, .sl [] .full⟩, ⟨9, none, .lit (.int .i64 (minI (lenL x1) 6))⟩, ⟨7, none, .ptr 2 0⟩, ⟨0, none, .lit (.int .i64 (addI .i64 1 (bitsOp .and .i64 x0 63)))⟩, ⟨1, none, .sl (x1.map (eNum .i64)) .no⟩, ⟨2, none, .lit (.int .i64 x2)⟩], [.mapo (encM (kI .i64) (kI .i64) o1.fShare), .mapo (encM (kI .i64) (kI .i64) o1.fLeft), .blk [.lit (.int .i64 o1.fMost), .mp 0, .mp 1, .lit (.int .i64 o1.fAt), .lit (.bool o1.fGranted)]]⟩ (AWp.reg Try.tyOk hΓ (keep := [35, 36]) (dead := []) (by kernel_rfl) rfl (by simp)) ?_
      refine AWp.equip 10 2 (els := []) (by simp) (by simp) ?_
      refine AWp.loopE (fun (s4 : Int × List Antiphonref19Head × (List (Int × Int)) × (List (Int × Int)) × Int × Int × Bool) (γ4 : Nat) => ⟨[⟨35, none, .lit (.int .i64 (minI (lenL x1) 6))⟩, ⟨36, none, .lit (.int .i64 s4.1)⟩, ⟨10, none, .sl (s4.2.1.map Antiphonref19Head.enc) (.own 3 (γ4) 2)⟩, ⟨9, none, .lit (.int .i64 (minI (lenL x1) 6))⟩, ⟨7, none, .ptr 2 0⟩, ⟨0, none, .lit (.int .i64 (addI .i64 1 (bitsOp .and .i64 x0 63)))⟩, ⟨1, none, .sl (x1.map (eNum .i64)) .no⟩, ⟨2, none, .lit (.int .i64 x2)⟩], [.mapo (encM (kI .i64) (kI .i64) s4.2.2.1), .mapo (encM (kI .i64) (kI .i64) s4.2.2.2.1), .blk [.lit (.int .i64 s4.2.2.2.2.1), .mp 0, .mp 1, .lit (.int .i64 s4.2.2.2.2.2.1), .lit (.bool s4.2.2.2.2.2.2)], .room (γ4)]⟩) (fun (v4 : List Antiphonref19Head × (List (Int × Int)) × (List (Int × Int)) × Int × Int × Bool) (γ4a : Nat) => ⟨[⟨10, none, .sl (v4.1.map Antiphonref19Head.enc) (.own 3 (γ4a) 2)⟩, ⟨9, none, .lit (.int .i64 (minI (lenL x1) 6))⟩, ⟨7, none, .ptr 2 0⟩, ⟨0, none, .lit (.int .i64 (addI .i64 1 (bitsOp .and .i64 x0 63)))⟩, ⟨2, none, .lit (.int .i64 x2)⟩], [.mapo (encM (kI .i64) (kI .i64) v4.2.1), .mapo (encM (kI .i64) (kI .i64) v4.2.2.1), .blk [.lit (.int .i64 v4.2.2.2.1), .mp 0, .mp 1, .lit (.int .i64 v4.2.2.2.2.1), .lit (.bool v4.2.2.2.2.2)], .room (γ4a)]⟩) (gLaw19DrrWaits.fin x0 x1 x2) hr 0 4 (by simp) (fun s4 f γ4 hr => ?_) (fun v4 γ4a σ1 m1 hr hc => ?_) (fun _ h => h)
      · unfold gLaw19DrrWaits.loop4 at hr
        refine AWp.then ⟨[⟨37, none, .lit (.bool (ltI s4.1 (minI (lenL x1) 6)))⟩, ⟨35, none, .lit (.int .i64 (minI (lenL x1) 6))⟩, ⟨36, none, .lit (.int .i64 s4.1)⟩, ⟨10, none, .sl (s4.2.1.map Antiphonref19Head.enc) (.own 3 (γ4) 2)⟩, ⟨9, none, .lit (.int .i64 (minI (lenL x1) 6))⟩, ⟨7, none, .ptr 2 0⟩, ⟨0, none, .lit (.int .i64 (addI .i64 1 (bitsOp .and .i64 x0 63)))⟩, ⟨1, none, .sl (x1.map (eNum .i64)) .no⟩, ⟨2, none, .lit (.int .i64 x2)⟩], [.mapo (encM (kI .i64) (kI .i64) s4.2.2.1), .mapo (encM (kI .i64) (kI .i64) s4.2.2.2.1), .blk [.lit (.int .i64 s4.2.2.2.2.1), .mp 0, .mp 1, .lit (.int .i64 s4.2.2.2.2.2.1), .lit (.bool s4.2.2.2.2.2.2)], .room (γ4)]⟩ (AWp.reg Try.tyOk hΓ (keep := [37]) (dead := []) (by kernel_rfl) rfl (by simp)) ?_
        refine AWp.seq ?_
        refine AWp.cond (b := (ltI s4.1 (minI (lenL x1) 6))) (by simp) (fun h44 => ?_) (fun h44 => ?_)
        · have hr := cond_t h44 hr
          refine AWp.skip ?_
          refine AWp.seq ?_
          refine AWp.block ?_
          refine AWp.then ⟨[⟨11, none, .lit (.int .i64 s4.1)⟩, ⟨35, none, .lit (.int .i64 (minI (lenL x1) 6))⟩, ⟨36, none, .lit (.int .i64 s4.1)⟩, ⟨10, none, .sl (s4.2.1.map Antiphonref19Head.enc) (.own 3 (γ4) 2)⟩, ⟨9, none, .lit (.int .i64 (minI (lenL x1) 6))⟩, ⟨7, none, .ptr 2 0⟩, ⟨0, none, .lit (.int .i64 (addI .i64 1 (bitsOp .and .i64 x0 63)))⟩, ⟨1, none, .sl (x1.map (eNum .i64)) .no⟩, ⟨2, none, .lit (.int .i64 x2)⟩], [.mapo (encM (kI .i64) (kI .i64) s4.2.2.1), .mapo (encM (kI .i64) (kI .i64) s4.2.2.2.1), .blk [.lit (.int .i64 s4.2.2.2.2.1), .mp 0, .mp 1, .lit (.int .i64 s4.2.2.2.2.2.1), .lit (.bool s4.2.2.2.2.2.2)], .room (γ4)]⟩ (AWp.reg Try.tyOk hΓ (keep := [11]) (dead := [37]) (by kernel_rfl) rfl (by simp [h44])) ?_
          refine AWp.seq ?_
          obtain ⟨h45, hr⟩ := need_some hr
          obtain ⟨r3, h46, hr⟩ := bind_some' hr
          refine AWp.then ⟨[⟨49, none, .lit (.bool (neI r3.1 0))⟩, ⟨11, none, .lit (.int .i64 s4.1)⟩, ⟨35, none, .lit (.int .i64 (minI (lenL x1) 6))⟩, ⟨36, none, .lit (.int .i64 s4.1)⟩, ⟨10, none, .sl (s4.2.1.map Antiphonref19Head.enc) (.own 3 (γ4) 2)⟩, ⟨9, none, .lit (.int .i64 (minI (lenL x1) 6))⟩, ⟨7, none, .ptr 2 0⟩, ⟨0, none, .lit (.int .i64 (addI .i64 1 (bitsOp .and .i64 x0 63)))⟩, ⟨1, none, .sl (x1.map (eNum .i64)) .no⟩, ⟨2, none, .lit (.int .i64 x2)⟩], [.mapo (encM (kI .i64) (kI .i64) r3.2.fShare), .mapo (encM (kI .i64) (kI .i64) r3.2.fLeft), .blk [.lit (.int .i64 r3.2.fMost), .mp 0, .mp 1, .lit (.int .i64 r3.2.fAt), .lit (.bool r3.2.fGranted)], .room (γ4)]⟩ (AWp.reg Try.tyOk hΓ (keep := [49]) (dead := []) (by kernel_rfl) rfl (by simp [h45, h46])) ?_
          refine AWp.cond (b := (neI r3.1 0)) (by simp) (fun h47 => ?_) (fun h47 => ?_)
          · have hr := cond_t h47 hr
            refine AWp.then ⟨[⟨6, none, .lit (.bool false)⟩], [.mapo (encM (kI .i64) (kI .i64) r3.2.fShare), .mapo (encM (kI .i64) (kI .i64) r3.2.fLeft), .blk [.lit (.int .i64 r3.2.fMost), .mp 0, .mp 1, .lit (.int .i64 r3.2.fAt), .lit (.bool r3.2.fGranted)], .room (γ4)]⟩ (AWp.reg Try.tyOk hΓ (keep := [6]) (dead := [49, 11, 35, 36, 10, 9, 7, 0, 1, 2]) (by kernel_rfl) rfl (by simp [h47])) ?_
            refine AWp.ret ?_
            obtain rfl := some_inj hr
            refine round_ret ?_
            refine fin_ret ?_
            simp
          · have hr := cond_f h47 hr
            refine AWp.skip ?_
            obtain ⟨h48, hr⟩ := need_some hr
            refine AWp.last ⟨[⟨10, none, .sl ((appL s4.2.1 [(Antiphonref19Head.mk s4.1 (addI .i64 1 (bitsOp .and .i64 x0 63)))]).map Antiphonref19Head.enc) (.own 3 (γ4 + 1) 2)⟩, ⟨35, none, .lit (.int .i64 (minI (lenL x1) 6))⟩, ⟨36, none, .lit (.int .i64 s4.1)⟩, ⟨9, none, .lit (.int .i64 (minI (lenL x1) 6))⟩, ⟨7, none, .ptr 2 0⟩, ⟨0, none, .lit (.int .i64 (addI .i64 1 (bitsOp .and .i64 x0 63)))⟩, ⟨1, none, .sl (x1.map (eNum .i64)) .no⟩, ⟨2, none, .lit (.int .i64 x2)⟩], [.mapo (encM (kI .i64) (kI .i64) r3.2.fShare), .mapo (encM (kI .i64) (kI .i64) r3.2.fLeft), .blk [.lit (.int .i64 r3.2.fMost), .mp 0, .mp 1, .lit (.int .i64 r3.2.fAt), .lit (.bool r3.2.fGranted)], .room (γ4 + 1)]⟩ (AWp.reg Try.tyOk hΓ (keep := [10]) (dead := [49, 11]) (by kernel_rfl) rfl (by simp [h47, h48])) ?_
            refine AWp.last ⟨[⟨36, none, .lit (.int .i64 (addI .i64 s4.1 1))⟩, ⟨10, none, .sl ((appL s4.2.1 [(Antiphonref19Head.mk s4.1 (addI .i64 1 (bitsOp .and .i64 x0 63)))]).map Antiphonref19Head.enc) (.own 3 (γ4 + 1) 2)⟩, ⟨35, none, .lit (.int .i64 (minI (lenL x1) 6))⟩, ⟨9, none, .lit (.int .i64 (minI (lenL x1) 6))⟩, ⟨7, none, .ptr 2 0⟩, ⟨0, none, .lit (.int .i64 (addI .i64 1 (bitsOp .and .i64 x0 63)))⟩, ⟨1, none, .sl (x1.map (eNum .i64)) .no⟩, ⟨2, none, .lit (.int .i64 x2)⟩], [.mapo (encM (kI .i64) (kI .i64) r3.2.fShare), .mapo (encM (kI .i64) (kI .i64) r3.2.fLeft), .blk [.lit (.int .i64 r3.2.fMost), .mp 0, .mp 1, .lit (.int .i64 r3.2.fAt), .lit (.bool r3.2.fGranted)], .room (γ4 + 1)]⟩ (AWp.reg Try.tyOk hΓ (keep := [36]) (dead := []) (by kernel_rfl) rfl (by simp)) ?_
            obtain rfl := some_inj hr
            exact round_go (γ4 + 1) 4 (by simp)
        · have hr := cond_f h44 hr
          refine AWp.exit ?_
          obtain rfl := some_inj hr
          exact round_out (γ4) 4 (by simp)
      · refine AWp.conv hc ?_
        refine AWp.then ⟨[⟨12, none, .lit (.int .i64 (-1))⟩, ⟨13, none, .sl [] .full⟩, ⟨10, none, .sl (v4.1.map Antiphonref19Head.enc) (.own 3 (γ4a) 2)⟩, ⟨9, none, .lit (.int .i64 (minI (lenL x1) 6))⟩, ⟨7, none, .ptr 2 0⟩, ⟨0, none, .lit (.int .i64 (addI .i64 1 (bitsOp .and .i64 x0 63)))⟩, ⟨2, none, .lit (.int .i64 x2)⟩], [.mapo (encM (kI .i64) (kI .i64) v4.2.1), .mapo (encM (kI .i64) (kI .i64) v4.2.2.1), .blk [.lit (.int .i64 v4.2.2.2.1), .mp 0, .mp 1, .lit (.int .i64 v4.2.2.2.2.1), .lit (.bool v4.2.2.2.2.2)], .room (γ4a)]⟩ (AWp.reg Try.tyOk hΓ (keep := [12, 13]) (dead := []) (by kernel_rfl) rfl (by simp)) ?_
        refine AWp.seq ?_
        refine AWp.then ⟨[⟨60, none, .lit (.int .i64 (minI (maxI x2 0) 200))⟩, ⟨61, none, .lit (.int .i64 0)⟩, ⟨12, none, .lit (.int .i64 (-1))⟩, ⟨13, none, .sl [] .full⟩, ⟨10, none, .sl (v4.1.map Antiphonref19Head.enc) (.own 3 (γ4a) 2)⟩, ⟨9, none, .lit (.int .i64 (minI (lenL x1) 6))⟩, ⟨7, none, .ptr 2 0⟩, ⟨0, none, .lit (.int .i64 (addI .i64 1 (bitsOp .and .i64 x0 63)))⟩], [.mapo (encM (kI .i64) (kI .i64) v4.2.1), .mapo (encM (kI .i64) (kI .i64) v4.2.2.1), .blk [.lit (.int .i64 v4.2.2.2.1), .mp 0, .mp 1, .lit (.int .i64 v4.2.2.2.2.1), .lit (.bool v4.2.2.2.2.2)], .room (γ4a)]⟩ (AWp.reg Try.tyOk hΓ (keep := [60, 61]) (dead := [2]) (by kernel_rfl) rfl (by simp)) ?_
        refine AWp.equip 13 1 (els := []) (by simp) (by simp) ?_
        refine AWp.loopE (fun (s5 : Int × Int × List Int × (List (Int × Int)) × (List (Int × Int)) × Int × Int × Bool) (γ5 : Nat) => ⟨[⟨60, none, .lit (.int .i64 (minI (maxI x2 0) 200))⟩, ⟨61, none, .lit (.int .i64 s5.1)⟩, ⟨12, none, .lit (.int .i64 s5.2.1)⟩, ⟨13, none, .sl (s5.2.2.1.map (eNum .i64)) (.own 4 (γ5) 1)⟩, ⟨10, none, .sl (v4.1.map Antiphonref19Head.enc) (.own 3 (γ4a) 2)⟩, ⟨9, none, .lit (.int .i64 (minI (lenL x1) 6))⟩, ⟨7, none, .ptr 2 0⟩, ⟨0, none, .lit (.int .i64 (addI .i64 1 (bitsOp .and .i64 x0 63)))⟩], [.mapo (encM (kI .i64) (kI .i64) s5.2.2.2.1), .mapo (encM (kI .i64) (kI .i64) s5.2.2.2.2.1), .blk [.lit (.int .i64 s5.2.2.2.2.2.1), .mp 0, .mp 1, .lit (.int .i64 s5.2.2.2.2.2.2.1), .lit (.bool s5.2.2.2.2.2.2.2)], .room (γ4a), .room (γ5)]⟩) (fun (v5 : List Int × (List (Int × Int)) × (List (Int × Int)) × Int × Int × Bool) (γ5a : Nat) => ⟨[⟨13, none, .sl (v5.1.map (eNum .i64)) (.own 4 (γ5a) 1)⟩, ⟨9, none, .lit (.int .i64 (minI (lenL x1) 6))⟩], [.mapo (encM (kI .i64) (kI .i64) v5.2.1), .mapo (encM (kI .i64) (kI .i64) v5.2.2.1), .blk [.lit (.int .i64 v5.2.2.2.1), .mp 0, .mp 1, .lit (.int .i64 v5.2.2.2.2.1), .lit (.bool v5.2.2.2.2.2)], .room (γ4a), .room (γ5a)]⟩) (gLaw19DrrWaits.fin x0 x1 x2) hr 0 5 (by simp) (fun s5 f γ5 hr => ?_) (fun v5 γ5a σ1 m1 hr hc => ?_) (fun _ h => h)
        · unfold gLaw19DrrWaits.loop5 at hr
          refine AWp.then ⟨[⟨62, none, .lit (.bool (ltI s5.1 (minI (maxI x2 0) 200)))⟩, ⟨60, none, .lit (.int .i64 (minI (maxI x2 0) 200))⟩, ⟨61, none, .lit (.int .i64 s5.1)⟩, ⟨12, none, .lit (.int .i64 s5.2.1)⟩, ⟨13, none, .sl (s5.2.2.1.map (eNum .i64)) (.own 4 (γ5) 1)⟩, ⟨10, none, .sl (v4.1.map Antiphonref19Head.enc) (.own 3 (γ4a) 2)⟩, ⟨9, none, .lit (.int .i64 (minI (lenL x1) 6))⟩, ⟨7, none, .ptr 2 0⟩, ⟨0, none, .lit (.int .i64 (addI .i64 1 (bitsOp .and .i64 x0 63)))⟩], [.mapo (encM (kI .i64) (kI .i64) s5.2.2.2.1), .mapo (encM (kI .i64) (kI .i64) s5.2.2.2.2.1), .blk [.lit (.int .i64 s5.2.2.2.2.2.1), .mp 0, .mp 1, .lit (.int .i64 s5.2.2.2.2.2.2.1), .lit (.bool s5.2.2.2.2.2.2.2)], .room (γ4a), .room (γ5)]⟩ (AWp.reg Try.tyOk hΓ (keep := [62]) (dead := []) (by kernel_rfl) rfl (by simp)) ?_
          refine AWp.seq ?_
          refine AWp.cond (b := (ltI s5.1 (minI (maxI x2 0) 200))) (by simp) (fun h49 => ?_) (fun h49 => ?_)
          · have hr := cond_t h49 hr
            refine AWp.skip ?_
            refine AWp.seq ?_
            refine AWp.block ?_
            obtain ⟨r4, h50, hr⟩ := bind_some' hr
            refine AWp.then ⟨[⟨14, none, .lit (.int .i64 r4.1)⟩, ⟨15, none, .lit (.bool r4.2.1)⟩, ⟨60, none, .lit (.int .i64 (minI (maxI x2 0) 200))⟩, ⟨61, none, .lit (.int .i64 s5.1)⟩, ⟨12, none, .lit (.int .i64 s5.2.1)⟩, ⟨13, none, .sl (s5.2.2.1.map (eNum .i64)) (.own 4 (γ5) 1)⟩, ⟨10, none, .sl (v4.1.map Antiphonref19Head.enc) (.own 3 (γ4a) 2)⟩, ⟨9, none, .lit (.int .i64 (minI (lenL x1) 6))⟩, ⟨7, none, .ptr 2 0⟩, ⟨0, none, .lit (.int .i64 (addI .i64 1 (bitsOp .and .i64 x0 63)))⟩], [.mapo (encM (kI .i64) (kI .i64) r4.2.2.fShare), .mapo (encM (kI .i64) (kI .i64) r4.2.2.fLeft), .blk [.lit (.int .i64 r4.2.2.fMost), .mp 0, .mp 1, .lit (.int .i64 r4.2.2.fAt), .lit (.bool r4.2.2.fGranted)], .room (γ4a), .room (γ5)]⟩ (AWp.reg Try.tyOk hΓ (keep := [14, 15]) (dead := [62]) (by kernel_rfl) rfl (by simp [h49, h50])) ?_
            refine AWp.seq ?_
            refine AWp.then ⟨[⟨72, none, .lit (.bool (neB r4.2.1 (ltI 0 (minI (lenL x1) 6))))⟩, ⟨14, none, .lit (.int .i64 r4.1)⟩, ⟨15, none, .lit (.bool r4.2.1)⟩, ⟨60, none, .lit (.int .i64 (minI (maxI x2 0) 200))⟩, ⟨61, none, .lit (.int .i64 s5.1)⟩, ⟨12, none, .lit (.int .i64 s5.2.1)⟩, ⟨13, none, .sl (s5.2.2.1.map (eNum .i64)) (.own 4 (γ5) 1)⟩, ⟨10, none, .sl (v4.1.map Antiphonref19Head.enc) (.own 3 (γ4a) 2)⟩, ⟨9, none, .lit (.int .i64 (minI (lenL x1) 6))⟩, ⟨7, none, .ptr 2 0⟩, ⟨0, none, .lit (.int .i64 (addI .i64 1 (bitsOp .and .i64 x0 63)))⟩], [.mapo (encM (kI .i64) (kI .i64) r4.2.2.fShare), .mapo (encM (kI .i64) (kI .i64) r4.2.2.fLeft), .blk [.lit (.int .i64 r4.2.2.fMost), .mp 0, .mp 1, .lit (.int .i64 r4.2.2.fAt), .lit (.bool r4.2.2.fGranted)], .room (γ4a), .room (γ5)]⟩ (AWp.reg Try.tyOk hΓ (keep := [72]) (dead := []) (by kernel_rfl) rfl (by simp)) ?_
            refine AWp.cond (b := (neB r4.2.1 (ltI 0 (minI (lenL x1) 6)))) (by simp) (fun h51 => ?_) (fun h51 => ?_)
            · have hr := cond_t h51 hr
              refine AWp.then ⟨[⟨6, none, .lit (.bool false)⟩], [.mapo (encM (kI .i64) (kI .i64) r4.2.2.fShare), .mapo (encM (kI .i64) (kI .i64) r4.2.2.fLeft), .blk [.lit (.int .i64 r4.2.2.fMost), .mp 0, .mp 1, .lit (.int .i64 r4.2.2.fAt), .lit (.bool r4.2.2.fGranted)], .room (γ4a), .room (γ5)]⟩ (AWp.reg Try.tyOk hΓ (keep := [6]) (dead := [72, 14, 15, 60, 61, 12, 13, 10, 9, 7, 0]) (by kernel_rfl) rfl (by simp [h51])) ?_
              refine AWp.ret ?_
              obtain rfl := some_inj hr
              refine round_ret ?_
              refine fin_ret ?_
              simp
            · have hr := cond_f h51 hr
              refine AWp.skip ?_
              refine AWp.seq ?_
              refine AWp.then ⟨[⟨74, none, .lit (.bool (notB r4.2.1))⟩, ⟨14, none, .lit (.int .i64 r4.1)⟩, ⟨60, none, .lit (.int .i64 (minI (maxI x2 0) 200))⟩, ⟨61, none, .lit (.int .i64 s5.1)⟩, ⟨12, none, .lit (.int .i64 s5.2.1)⟩, ⟨13, none, .sl (s5.2.2.1.map (eNum .i64)) (.own 4 (γ5) 1)⟩, ⟨10, none, .sl (v4.1.map Antiphonref19Head.enc) (.own 3 (γ4a) 2)⟩, ⟨9, none, .lit (.int .i64 (minI (lenL x1) 6))⟩, ⟨7, none, .ptr 2 0⟩, ⟨0, none, .lit (.int .i64 (addI .i64 1 (bitsOp .and .i64 x0 63)))⟩], [.mapo (encM (kI .i64) (kI .i64) r4.2.2.fShare), .mapo (encM (kI .i64) (kI .i64) r4.2.2.fLeft), .blk [.lit (.int .i64 r4.2.2.fMost), .mp 0, .mp 1, .lit (.int .i64 r4.2.2.fAt), .lit (.bool r4.2.2.fGranted)], .room (γ4a), .room (γ5)]⟩ (AWp.reg Try.tyOk hΓ (keep := [74]) (dead := [72, 15]) (by kernel_rfl) rfl (by simp [h51])) ?_
              refine AWp.cond (b := (notB r4.2.1)) (by simp) (fun h52 => ?_) (fun h52 => ?_)
              · have hr := cond_t h52 hr
                refine AWp.exit ?_
                refine blockS_other (by decide) ?_
                obtain rfl := some_inj hr
                exact round_out (γ5) 5 (by simp)
              · have hr := cond_f h52 hr
                refine AWp.skip ?_
                obtain ⟨r5, h53, hr⟩ := bind_some' hr
                refine AWp.then ⟨[⟨14, none, .lit (.int .i64 r4.1)⟩, ⟨60, none, .lit (.int .i64 (minI (maxI x2 0) 200))⟩, ⟨61, none, .lit (.int .i64 s5.1)⟩, ⟨12, none, .lit (.int .i64 s5.2.1)⟩, ⟨13, none, .sl (s5.2.2.1.map (eNum .i64)) (.own 4 (γ5) 1)⟩, ⟨10, none, .sl (v4.1.map Antiphonref19Head.enc) (.own 3 (γ4a) 2)⟩, ⟨9, none, .lit (.int .i64 (minI (lenL x1) 6))⟩, ⟨7, none, .ptr 2 0⟩, ⟨0, none, .lit (.int .i64 (addI .i64 1 (bitsOp .and .i64 x0 63)))⟩], [.mapo (encM (kI .i64) (kI .i64) r5.fShare), .mapo (encM (kI .i64) (kI .i64) r5.fLeft), .blk [.lit (.int .i64 r5.fMost), .mp 0, .mp 1, .lit (.int .i64 r5.fAt), .lit (.bool r5.fGranted)], .room (γ4a), .room (γ5)]⟩ (AWp.reg Try.tyOk hΓ (keep := []) (dead := [74]) (by kernel_rfl) rfl (by simp [h52, h53])) ?_
                refine AWp.seq ?_
                refine AWp.then ⟨[⟨80, none, .lit (.bool (neI r4.1 s5.2.1))⟩, ⟨14, none, .lit (.int .i64 r4.1)⟩, ⟨60, none, .lit (.int .i64 (minI (maxI x2 0) 200))⟩, ⟨61, none, .lit (.int .i64 s5.1)⟩, ⟨13, none, .sl (s5.2.2.1.map (eNum .i64)) (.own 4 (γ5) 1)⟩, ⟨10, none, .sl (v4.1.map Antiphonref19Head.enc) (.own 3 (γ4a) 2)⟩, ⟨9, none, .lit (.int .i64 (minI (lenL x1) 6))⟩, ⟨7, none, .ptr 2 0⟩, ⟨0, none, .lit (.int .i64 (addI .i64 1 (bitsOp .and .i64 x0 63)))⟩], [.mapo (encM (kI .i64) (kI .i64) r5.fShare), .mapo (encM (kI .i64) (kI .i64) r5.fLeft), .blk [.lit (.int .i64 r5.fMost), .mp 0, .mp 1, .lit (.int .i64 r5.fAt), .lit (.bool r5.fGranted)], .room (γ4a), .room (γ5)]⟩ (AWp.reg Try.tyOk hΓ (keep := [80]) (dead := [12]) (by kernel_rfl) rfl (by simp)) ?_
                refine AWp.cond (b := (neI r4.1 s5.2.1)) (by simp) (fun h54 => ?_) (fun h54 => ?_)
                · have hr := cond_t h54 hr
                  obtain ⟨h55, hr⟩ := need_some hr
                  refine AWp.last ⟨[⟨13, none, .sl ((appL s5.2.2.1 [r4.1]).map (eNum .i64)) (.own 4 (γ5 + 1) 1)⟩, ⟨14, none, .lit (.int .i64 r4.1)⟩, ⟨60, none, .lit (.int .i64 (minI (maxI x2 0) 200))⟩, ⟨61, none, .lit (.int .i64 s5.1)⟩, ⟨10, none, .sl (v4.1.map Antiphonref19Head.enc) (.own 3 (γ4a) 2)⟩, ⟨9, none, .lit (.int .i64 (minI (lenL x1) 6))⟩, ⟨7, none, .ptr 2 0⟩, ⟨0, none, .lit (.int .i64 (addI .i64 1 (bitsOp .and .i64 x0 63)))⟩], [.mapo (encM (kI .i64) (kI .i64) r5.fShare), .mapo (encM (kI .i64) (kI .i64) r5.fLeft), .blk [.lit (.int .i64 r5.fMost), .mp 0, .mp 1, .lit (.int .i64 r5.fAt), .lit (.bool r5.fGranted)], .room (γ4a), .room (γ5 + 1)]⟩ (AWp.reg Try.tyOk hΓ (keep := [13]) (dead := [80]) (by kernel_rfl) rfl (by simp [h54, h55])) ?_
                  refine AWp.last ⟨[⟨12, none, .lit (.int .i64 r4.1)⟩, ⟨13, none, .sl ((appL s5.2.2.1 [r4.1]).map (eNum .i64)) (.own 4 (γ5 + 1) 1)⟩, ⟨60, none, .lit (.int .i64 (minI (maxI x2 0) 200))⟩, ⟨61, none, .lit (.int .i64 s5.1)⟩, ⟨10, none, .sl (v4.1.map Antiphonref19Head.enc) (.own 3 (γ4a) 2)⟩, ⟨9, none, .lit (.int .i64 (minI (lenL x1) 6))⟩, ⟨7, none, .ptr 2 0⟩, ⟨0, none, .lit (.int .i64 (addI .i64 1 (bitsOp .and .i64 x0 63)))⟩], [.mapo (encM (kI .i64) (kI .i64) r5.fShare), .mapo (encM (kI .i64) (kI .i64) r5.fLeft), .blk [.lit (.int .i64 r5.fMost), .mp 0, .mp 1, .lit (.int .i64 r5.fAt), .lit (.bool r5.fGranted)], .room (γ4a), .room (γ5 + 1)]⟩ (AWp.reg Try.tyOk hΓ (keep := [12]) (dead := [14]) (by kernel_rfl) rfl (by simp)) ?_
                  refine AWp.last ⟨[⟨61, none, .lit (.int .i64 (addI .i64 s5.1 1))⟩, ⟨12, none, .lit (.int .i64 r4.1)⟩, ⟨13, none, .sl ((appL s5.2.2.1 [r4.1]).map (eNum .i64)) (.own 4 (γ5 + 1) 1)⟩, ⟨60, none, .lit (.int .i64 (minI (maxI x2 0) 200))⟩, ⟨10, none, .sl (v4.1.map Antiphonref19Head.enc) (.own 3 (γ4a) 2)⟩, ⟨9, none, .lit (.int .i64 (minI (lenL x1) 6))⟩, ⟨7, none, .ptr 2 0⟩, ⟨0, none, .lit (.int .i64 (addI .i64 1 (bitsOp .and .i64 x0 63)))⟩], [.mapo (encM (kI .i64) (kI .i64) r5.fShare), .mapo (encM (kI .i64) (kI .i64) r5.fLeft), .blk [.lit (.int .i64 r5.fMost), .mp 0, .mp 1, .lit (.int .i64 r5.fAt), .lit (.bool r5.fGranted)], .room (γ4a), .room (γ5 + 1)]⟩ (AWp.reg Try.tyOk hΓ (keep := [61]) (dead := []) (by kernel_rfl) rfl (by simp)) ?_
                  obtain rfl := some_inj hr
                  exact round_go (γ5 + 1) 5 (by simp)
                · have hr := cond_f h54 hr
                  refine AWp.skip ?_
                  refine AWp.last ⟨[⟨12, none, .lit (.int .i64 r4.1)⟩, ⟨60, none, .lit (.int .i64 (minI (maxI x2 0) 200))⟩, ⟨61, none, .lit (.int .i64 s5.1)⟩, ⟨13, none, .sl (s5.2.2.1.map (eNum .i64)) (.own 4 (γ5) 1)⟩, ⟨10, none, .sl (v4.1.map Antiphonref19Head.enc) (.own 3 (γ4a) 2)⟩, ⟨9, none, .lit (.int .i64 (minI (lenL x1) 6))⟩, ⟨7, none, .ptr 2 0⟩, ⟨0, none, .lit (.int .i64 (addI .i64 1 (bitsOp .and .i64 x0 63)))⟩], [.mapo (encM (kI .i64) (kI .i64) r5.fShare), .mapo (encM (kI .i64) (kI .i64) r5.fLeft), .blk [.lit (.int .i64 r5.fMost), .mp 0, .mp 1, .lit (.int .i64 r5.fAt), .lit (.bool r5.fGranted)], .room (γ4a), .room (γ5)]⟩ (AWp.reg Try.tyOk hΓ (keep := [12]) (dead := [80, 14]) (by kernel_rfl) rfl (by simp [h54])) ?_
                  refine AWp.last ⟨[⟨61, none, .lit (.int .i64 (addI .i64 s5.1 1))⟩, ⟨12, none, .lit (.int .i64 r4.1)⟩, ⟨60, none, .lit (.int .i64 (minI (maxI x2 0) 200))⟩, ⟨13, none, .sl (s5.2.2.1.map (eNum .i64)) (.own 4 (γ5) 1)⟩, ⟨10, none, .sl (v4.1.map Antiphonref19Head.enc) (.own 3 (γ4a) 2)⟩, ⟨9, none, .lit (.int .i64 (minI (lenL x1) 6))⟩, ⟨7, none, .ptr 2 0⟩, ⟨0, none, .lit (.int .i64 (addI .i64 1 (bitsOp .and .i64 x0 63)))⟩], [.mapo (encM (kI .i64) (kI .i64) r5.fShare), .mapo (encM (kI .i64) (kI .i64) r5.fLeft), .blk [.lit (.int .i64 r5.fMost), .mp 0, .mp 1, .lit (.int .i64 r5.fAt), .lit (.bool r5.fGranted)], .room (γ4a), .room (γ5)]⟩ (AWp.reg Try.tyOk hΓ (keep := [61]) (dead := []) (by kernel_rfl) rfl (by simp)) ?_
                  obtain rfl := some_inj hr
                  exact round_go (γ5) 5 (by simp)
          · have hr := cond_f h49 hr
            refine AWp.exit ?_
            obtain rfl := some_inj hr
            exact round_out (γ5) 5 (by simp)
        · refine AWp.conv hc ?_
          refine AWp.seq ?_
          refine AWp.then ⟨[⟨87, none, .sl (v5.1.map (eNum .i64)) (.own 4 (γ5a) 1)⟩, ⟨88, none, .lit (.int .i64 (lenL v5.1))⟩, ⟨89, none, .lit (.int .i64 0)⟩, ⟨13, none, .sl (v5.1.map (eNum .i64)) (.own 4 (γ5a) 1)⟩, ⟨9, none, .lit (.int .i64 (minI (lenL x1) 6))⟩], [.mapo (encM (kI .i64) (kI .i64) v5.2.1), .mapo (encM (kI .i64) (kI .i64) v5.2.2.1), .blk [.lit (.int .i64 v5.2.2.2.1), .mp 0, .mp 1, .lit (.int .i64 v5.2.2.2.2.1), .lit (.bool v5.2.2.2.2.2)], .room (γ4a), .room (γ5a)]⟩ (AWp.reg Try.tyOk hΓ (keep := [87, 88, 89]) (dead := []) (by kernel_rfl) rfl (by simp)) ?_
          refine AWp.loopE (fun (s6 : Int) (γ6 : Unit) => ⟨[⟨87, none, .sl (v5.1.map (eNum .i64)) (.own 4 (γ5a) 1)⟩, ⟨88, none, .lit (.int .i64 (lenL v5.1))⟩, ⟨89, none, .lit (.int .i64 s6)⟩, ⟨13, none, .sl (v5.1.map (eNum .i64)) (.own 4 (γ5a) 1)⟩, ⟨9, none, .lit (.int .i64 (minI (lenL x1) 6))⟩], [.mapo (encM (kI .i64) (kI .i64) v5.2.1), .mapo (encM (kI .i64) (kI .i64) v5.2.2.1), .blk [.lit (.int .i64 v5.2.2.2.1), .mp 0, .mp 1, .lit (.int .i64 v5.2.2.2.2.1), .lit (.bool v5.2.2.2.2.2)], .room (γ4a), .room (γ5a)]⟩) (fun (v6 : Unit) (γ6a : Unit) => ⟨[], [.mapo (encM (kI .i64) (kI .i64) v5.2.1), .mapo (encM (kI .i64) (kI .i64) v5.2.2.1), .blk [.lit (.int .i64 v5.2.2.2.1), .mp 0, .mp 1, .lit (.int .i64 v5.2.2.2.2.1), .lit (.bool v5.2.2.2.2.2)], .room (γ4a), .room (γ5a)]⟩) (gLaw19DrrWaits.fin x0 x1 x2) hr () 5 (by simp) (fun s6 f γ6 hr => ?_) (fun v6 γ6a σ1 m1 hr hc => ?_) (fun _ h => h)
          · unfold gLaw19DrrWaits.loop6 at hr
            refine AWp.then ⟨[⟨90, none, .lit (.bool (ltI s6 (lenL v5.1)))⟩, ⟨87, none, .sl (v5.1.map (eNum .i64)) (.own 4 (γ5a) 1)⟩, ⟨88, none, .lit (.int .i64 (lenL v5.1))⟩, ⟨89, none, .lit (.int .i64 s6)⟩, ⟨13, none, .sl (v5.1.map (eNum .i64)) (.own 4 (γ5a) 1)⟩, ⟨9, none, .lit (.int .i64 (minI (lenL x1) 6))⟩], [.mapo (encM (kI .i64) (kI .i64) v5.2.1), .mapo (encM (kI .i64) (kI .i64) v5.2.2.1), .blk [.lit (.int .i64 v5.2.2.2.1), .mp 0, .mp 1, .lit (.int .i64 v5.2.2.2.2.1), .lit (.bool v5.2.2.2.2.2)], .room (γ4a), .room (γ5a)]⟩ (AWp.reg Try.tyOk hΓ (keep := [90]) (dead := []) (by kernel_rfl) rfl (by simp)) ?_
            refine AWp.seq ?_
            refine AWp.cond (b := (ltI s6 (lenL v5.1))) (by simp) (fun h56 => ?_) (fun h56 => ?_)
            · have hr := cond_t h56 hr
              refine AWp.skip ?_
              refine AWp.seq ?_
              refine AWp.block ?_
              obtain ⟨h57, hr⟩ := need_some hr
              refine AWp.then ⟨[⟨16, none, .lit (.int .i64 s6)⟩, ⟨17, none, .lit (.int .i64 (nthI v5.1 s6))⟩, ⟨87, none, .sl (v5.1.map (eNum .i64)) (.own 4 (γ5a) 1)⟩, ⟨88, none, .lit (.int .i64 (lenL v5.1))⟩, ⟨89, none, .lit (.int .i64 s6)⟩, ⟨13, none, .sl (v5.1.map (eNum .i64)) (.own 4 (γ5a) 1)⟩, ⟨9, none, .lit (.int .i64 (minI (lenL x1) 6))⟩], [.mapo (encM (kI .i64) (kI .i64) v5.2.1), .mapo (encM (kI .i64) (kI .i64) v5.2.2.1), .blk [.lit (.int .i64 v5.2.2.2.1), .mp 0, .mp 1, .lit (.int .i64 v5.2.2.2.2.1), .lit (.bool v5.2.2.2.2.2)], .room (γ4a), .room (γ5a)]⟩ (AWp.reg Try.tyOk hΓ (keep := [16, 17]) (dead := [90]) (by kernel_rfl) rfl (by simp [h56, h57])) ?_
              obtain ⟨h58, hr⟩ := need_some hr
              obtain ⟨h59, hr⟩ := need_some hr
              refine AWp.then ⟨[⟨107, none, .lit (.bool (pickB (ltI 0 s6) (neI (nthI v5.1 s6) (remI (addI .i64 (nthI v5.1 (subI .i64 s6 1)) 1) (minI (lenL x1) 6))) false))⟩, ⟨87, none, .sl (v5.1.map (eNum .i64)) (.own 4 (γ5a) 1)⟩, ⟨88, none, .lit (.int .i64 (lenL v5.1))⟩, ⟨89, none, .lit (.int .i64 s6)⟩, ⟨13, none, .sl (v5.1.map (eNum .i64)) (.own 4 (γ5a) 1)⟩, ⟨9, none, .lit (.int .i64 (minI (lenL x1) 6))⟩], [.mapo (encM (kI .i64) (kI .i64) v5.2.1), .mapo (encM (kI .i64) (kI .i64) v5.2.2.1), .blk [.lit (.int .i64 v5.2.2.2.1), .mp 0, .mp 1, .lit (.int .i64 v5.2.2.2.2.1), .lit (.bool v5.2.2.2.2.2)], .room (γ4a), .room (γ5a)]⟩ (AWp.reg Try.tyOk hΓ (keep := [107]) (dead := [16, 17]) (by kernel_rfl) rfl (by simp [h58, h59])) ?_
              refine AWp.cond (b := (pickB (ltI 0 s6) (neI (nthI v5.1 s6) (remI (addI .i64 (nthI v5.1 (subI .i64 s6 1)) 1) (minI (lenL x1) 6))) false)) (by simp) (fun h60 => ?_) (fun h60 => ?_)
              · have hr := cond_t h60 hr
                refine AWp.then ⟨[⟨6, none, .lit (.bool false)⟩], [.mapo (encM (kI .i64) (kI .i64) v5.2.1), .mapo (encM (kI .i64) (kI .i64) v5.2.2.1), .blk [.lit (.int .i64 v5.2.2.2.1), .mp 0, .mp 1, .lit (.int .i64 v5.2.2.2.2.1), .lit (.bool v5.2.2.2.2.2)], .room (γ4a), .room (γ5a)]⟩ (AWp.reg Try.tyOk hΓ (keep := [6]) (dead := [107, 87, 88, 89, 13, 9]) (by kernel_rfl) rfl (by simp [h60])) ?_
                refine AWp.ret ?_
                obtain rfl := some_inj hr
                refine round_ret ?_
                refine fin_ret ?_
                simp
              · have hr := cond_f h60 hr
                refine AWp.skip ?_
                refine AWp.last ⟨[⟨89, none, .lit (.int .i64 (addI .i64 s6 1))⟩, ⟨87, none, .sl (v5.1.map (eNum .i64)) (.own 4 (γ5a) 1)⟩, ⟨88, none, .lit (.int .i64 (lenL v5.1))⟩, ⟨13, none, .sl (v5.1.map (eNum .i64)) (.own 4 (γ5a) 1)⟩, ⟨9, none, .lit (.int .i64 (minI (lenL x1) 6))⟩], [.mapo (encM (kI .i64) (kI .i64) v5.2.1), .mapo (encM (kI .i64) (kI .i64) v5.2.2.1), .blk [.lit (.int .i64 v5.2.2.2.1), .mp 0, .mp 1, .lit (.int .i64 v5.2.2.2.2.1), .lit (.bool v5.2.2.2.2.2)], .room (γ4a), .room (γ5a)]⟩ (AWp.reg Try.tyOk hΓ (keep := [89]) (dead := [107]) (by kernel_rfl) rfl (by simp [h60])) ?_
                obtain rfl := some_inj hr
                exact round_go () 5 (by simp)
            · have hr := cond_f h56 hr
              refine AWp.exit ?_
              obtain rfl := some_inj hr
              exact round_out () 5 (by simp)
          · refine AWp.conv hc ?_
            refine AWp.then ⟨[⟨6, none, .lit (.bool true)⟩], [.mapo (encM (kI .i64) (kI .i64) v5.2.1), .mapo (encM (kI .i64) (kI .i64) v5.2.2.1), .blk [.lit (.int .i64 v5.2.2.2.1), .mp 0, .mp 1, .lit (.int .i64 v5.2.2.2.2.1), .lit (.bool v5.2.2.2.2.2)], .room (γ4a), .room (γ5a)]⟩ (AWp.reg Try.tyOk hΓ (keep := [6]) (dead := []) (by kernel_rfl) rfl (by simp)) ?_
            refine AWp.ret ?_
            obtain rfl := some_inj hr
            refine fin_ret ?_
            simp

@[simp] noncomputable def gLaw19DrrWaits.S : Sp
  | [.lit (.int .i64 x0), .sl e1 _, .lit (.int .i64 x2)], _ => some { av := .lit (.bool ((gLaw19DrrWaits x0 (e1.map decI) x2).getD dflt)), M := none, obl := e1 = (e1.map decI).map (eNum .i64) ∧ (gLaw19DrrWaits x0 (e1.map decI) x2).isSome = true }
  | _, _ => none

set_option maxHeartbeats 1000000 in
theorem gLaw19DrrWaits.ok : SpecOk Try.prog 4 gLaw19DrrWaits.S := by
  intro l M out h
  unfold gLaw19DrrWaits.S at h
  split at h
  · rename_i x0 e1 k1 x2
    cases h
    refine callOk_of fun ho => ?_
    obtain ⟨ox1, hs⟩ := ho
    generalize (e1.map decI) = x1 at *
    subst ox1
    obtain ⟨r, hr⟩ := Option.isSome_iff_exists.1 hs
    simp only [hr, Option.getD_some]
    have q := call_frame (M := M) [] (gLaw19DrrWaits.can x0 x1 x2 r hr) (by simp) rfl (by intro k i hk; simp at hk)
    exact callOk_conv q trivial (by simp) (by simp [frameOut, gLaw19DrrWaits.out]) (by simp [frameOut, gLaw19DrrWaits.out])
  · cases h
end Go.Proofs
