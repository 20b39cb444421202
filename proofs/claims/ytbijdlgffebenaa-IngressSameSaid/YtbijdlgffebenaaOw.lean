/- That these functions compute what their plain functions do. No condition. -/
import Derived.Test.YtbijdlgffebenaaM02
import Derived.Test.YtbijdlgffebenaaTy
import Derived.Test.YtbijdlgffebenaaM13
namespace Go.Proofs
open Go.Ab
@[simp] def gOctetWriterNum.out (_x0 : List Int) (_x1 : Int) (_x2 : List Int) (r : List Int) : Out := { av := .ptr 0 0, M := some [.opq (wrO 111 5 r)] }
def gOctetWriterNum.fin (x0 : List Int) (x1 : Int) (x2 : List Int) (r : List Int) (σ : St) : Prop := finK (gOctetWriterNum.out x0 x1 x2 r) [.opq (wrO 111 5 x0)] σ.M (resA Try.ty σ.A σ.M Try.f50.results.toList)
set_option maxHeartbeats 4000000 in
set_option maxRecDepth 100000 in
theorem gOctetWriterNum.can (x0 : List Int) (x1 : Int) (x2 : List Int) (r : List Int) (hr : gOctetWriterNum x0 x1 x2 = some r) : CallOk Try.prog 50 [.ptr 0 0, .lit (.int .i64 x1), .sl (x2.map (eNum .u64)) .no] [.opq (wrO 111 5 x0)] (gOctetWriterNum.out x0 x1 x2 r) := by
  unfold gOctetWriterNum at hr
  have hΓ := (gamL_cons gOwByte.ok (gamL_nil) : GamOk Try.prog _)
  refine call_of_awp Try.tyOk Try.func50 rfl (by kernel_rfl) rfl rfl (by simp) ?_
  intro _ _ _
  refine AWp.then ⟨[⟨0, none, .ptr 0 0⟩, ⟨1, none, .lit (.int .i64 x1)⟩, ⟨2, none, .sl (x2.map (eNum .u64)) .no⟩], [.opq (wrO 111 5 x0)]⟩ (AWp.reg Try.tyOk hΓ (keep := []) (dead := []) (by kernel_rfl) rfl (by simp)) ?_
  refine AWp.then ⟨[⟨1, none, .lit (.int .i64 (minI (maxI x1 1) 8))⟩, ⟨0, none, .ptr 0 0⟩, ⟨2, none, .sl (x2.map (eNum .u64)) .no⟩], [.opq (wrO 111 5 x0)]⟩ (AWp.reg Try.tyOk hΓ (keep := [1]) (dead := []) (by kernel_rfl) rfl (by simp)) ?_
  refine AWp.seq ?_
  refine AWp.then ⟨[⟨13, none, .sl (x2.map (eNum .u64)) .no⟩, ⟨14, none, .lit (.int .i64 (lenL x2))⟩, ⟨15, none, .lit (.int .i64 0)⟩, ⟨1, none, .lit (.int .i64 (minI (maxI x1 1) 8))⟩, ⟨0, none, .ptr 0 0⟩], [.opq (wrO 111 5 x0)]⟩ (AWp.reg Try.tyOk hΓ (keep := [13, 14, 15]) (dead := [2]) (by kernel_rfl) rfl (by simp)) ?_
  refine AWp.loopE (fun (s1 : Int × List Int) (γ1 : Unit) => ⟨[⟨13, none, .sl (x2.map (eNum .u64)) .no⟩, ⟨14, none, .lit (.int .i64 (lenL x2))⟩, ⟨15, none, .lit (.int .i64 s1.1)⟩, ⟨1, none, .lit (.int .i64 (minI (maxI x1 1) 8))⟩, ⟨0, none, .ptr 0 0⟩], [.opq (wrO 111 5 s1.2)]⟩) (fun (v1 : List Int) (γ1a : Unit) => ⟨[⟨0, none, .ptr 0 0⟩], [.opq (wrO 111 5 v1)]⟩) (gOctetWriterNum.fin x0 x1 x2) hr () 1 (by simp) (fun s1 f γ1 hr => ?_) (fun v1 γ1a σ1 m1 hr hc => ?_) (fun _ h => h)
  · unfold gOctetWriterNum.loop1 at hr
    refine AWp.then ⟨[⟨16, none, .lit (.bool (ltI s1.1 (lenL x2)))⟩, ⟨13, none, .sl (x2.map (eNum .u64)) .no⟩, ⟨14, none, .lit (.int .i64 (lenL x2))⟩, ⟨15, none, .lit (.int .i64 s1.1)⟩, ⟨1, none, .lit (.int .i64 (minI (maxI x1 1) 8))⟩, ⟨0, none, .ptr 0 0⟩], [.opq (wrO 111 5 s1.2)]⟩ (AWp.reg Try.tyOk hΓ (keep := [16]) (dead := []) (by kernel_rfl) rfl (by simp)) ?_
    refine AWp.seq ?_
    refine AWp.cond (b := (ltI s1.1 (lenL x2))) (by simp) (fun h6 => ?_) (fun h6 => ?_)
    · have hr := cond_t h6 hr
      refine AWp.skip ?_
      refine AWp.seq ?_
      refine AWp.block ?_
      obtain ⟨h7, hr⟩ := need_some hr
      refine AWp.then ⟨[⟨8, none, .lit (.int .u64 (nthI x2 s1.1))⟩, ⟨13, none, .sl (x2.map (eNum .u64)) .no⟩, ⟨14, none, .lit (.int .i64 (lenL x2))⟩, ⟨15, none, .lit (.int .i64 s1.1)⟩, ⟨1, none, .lit (.int .i64 (minI (maxI x1 1) 8))⟩, ⟨0, none, .ptr 0 0⟩], [.opq (wrO 111 5 s1.2)]⟩ (AWp.reg Try.tyOk hΓ (keep := [8]) (dead := [16]) (by kernel_rfl) rfl (by simp [h6, h7])) ?_
      refine AWp.then ⟨[⟨9, none, .lit (.int .i64 (subI .i64 (minI (maxI x1 1) 8) 1))⟩, ⟨8, none, .lit (.int .u64 (nthI x2 s1.1))⟩, ⟨13, none, .sl (x2.map (eNum .u64)) .no⟩, ⟨14, none, .lit (.int .i64 (lenL x2))⟩, ⟨15, none, .lit (.int .i64 s1.1)⟩, ⟨1, none, .lit (.int .i64 (minI (maxI x1 1) 8))⟩, ⟨0, none, .ptr 0 0⟩], [.opq (wrO 111 5 s1.2)]⟩ (AWp.reg Try.tyOk hΓ (keep := [9]) (dead := []) (by kernel_rfl) rfl (by simp)) ?_
      refine AWp.loopE (fun (s2 : Int × List Int) (γ2 : Unit) => ⟨[⟨9, none, .lit (.int .i64 s2.1)⟩, ⟨8, none, .lit (.int .u64 (nthI x2 s1.1))⟩, ⟨13, none, .sl (x2.map (eNum .u64)) .no⟩, ⟨14, none, .lit (.int .i64 (lenL x2))⟩, ⟨15, none, .lit (.int .i64 s1.1)⟩, ⟨1, none, .lit (.int .i64 (minI (maxI x1 1) 8))⟩, ⟨0, none, .ptr 0 0⟩], [.opq (wrO 111 5 s2.2)]⟩) (fun (v2 : List Int) (γ2a : Unit) => ⟨[⟨13, none, .sl (x2.map (eNum .u64)) .no⟩, ⟨14, none, .lit (.int .i64 (lenL x2))⟩, ⟨15, none, .lit (.int .i64 s1.1)⟩, ⟨1, none, .lit (.int .i64 (minI (maxI x1 1) 8))⟩, ⟨0, none, .ptr 0 0⟩], [.opq (wrO 111 5 v2)]⟩) (QRr (gOctetWriterNum.fin x0 x1 x2)) hr () 1 (by simp) (fun s2 f γ2 hr => ?_) (fun v2 γ2a σ1 m1 hr hc => ?_) (fun _ h => QRr_ret h)
      · unfold gOctetWriterNum.loop2 at hr
        refine AWp.seq ?_
        refine AWp.then ⟨[⟨22, none, .lit (.bool (leqI 0 s2.1))⟩, ⟨9, none, .lit (.int .i64 s2.1)⟩, ⟨8, none, .lit (.int .u64 (nthI x2 s1.1))⟩, ⟨13, none, .sl (x2.map (eNum .u64)) .no⟩, ⟨14, none, .lit (.int .i64 (lenL x2))⟩, ⟨15, none, .lit (.int .i64 s1.1)⟩, ⟨1, none, .lit (.int .i64 (minI (maxI x1 1) 8))⟩, ⟨0, none, .ptr 0 0⟩], [.opq (wrO 111 5 s2.2)]⟩ (AWp.reg Try.tyOk hΓ (keep := [22]) (dead := []) (by kernel_rfl) rfl (by simp)) ?_
        refine AWp.cond (b := (leqI 0 s2.1)) (by simp) (fun h8 => ?_) (fun h8 => ?_)
        · have hr := cond_t h8 hr
          refine AWp.skip ?_
          refine AWp.seq ?_
          refine AWp.block ?_
          obtain ⟨h9, hr⟩ := need_some hr
          obtain ⟨h10, hr⟩ := need_some hr
          refine AWp.last ⟨[⟨9, none, .lit (.int .i64 s2.1)⟩, ⟨8, none, .lit (.int .u64 (nthI x2 s1.1))⟩, ⟨13, none, .sl (x2.map (eNum .u64)) .no⟩, ⟨14, none, .lit (.int .i64 (lenL x2))⟩, ⟨15, none, .lit (.int .i64 s1.1)⟩, ⟨1, none, .lit (.int .i64 (minI (maxI x1 1) 8))⟩, ⟨0, none, .ptr 0 0⟩], [.opq (wrO 111 5 (appL s2.2 [(cvtI .u8 (shrI .u64 (nthI x2 s1.1) (mulI .i64 8 s2.1)))]))]⟩ (AWp.regD Try.mixed Try.tyOk hΓ (keep := []) (dead := [22]) [] [(false, []), (false, []), (false, []), (false, []), (false, []), (false, []), (false, []), (false, []), (true, [])] (by kernel_rfl) rfl (by simp [h8, h9, h10])) ?_
          refine AWp.last ⟨[⟨9, none, .lit (.int .i64 (subI .i64 s2.1 1))⟩, ⟨8, none, .lit (.int .u64 (nthI x2 s1.1))⟩, ⟨13, none, .sl (x2.map (eNum .u64)) .no⟩, ⟨14, none, .lit (.int .i64 (lenL x2))⟩, ⟨15, none, .lit (.int .i64 s1.1)⟩, ⟨1, none, .lit (.int .i64 (minI (maxI x1 1) 8))⟩, ⟨0, none, .ptr 0 0⟩], [.opq (wrO 111 5 (appL s2.2 [(cvtI .u8 (shrI .u64 (nthI x2 s1.1) (mulI .i64 8 s2.1)))]))]⟩ (AWp.reg Try.tyOk hΓ (keep := [9]) (dead := []) (by kernel_rfl) rfl (by simp)) ?_
          obtain rfl := some_inj hr
          exact round_go () 1 (by first | (simp; done) | simp [h6, h7, h8, h9, h10])
        · have hr := cond_f h8 hr
          refine AWp.exit ?_
          obtain rfl := some_inj hr
          exact round_out () 1 (by first | (simp; done) | simp [h6, h7, h8])
      · refine AWp.conv hc ?_
        refine AWp.last ⟨[⟨15, none, .lit (.int .i64 (addI .i64 s1.1 1))⟩, ⟨13, none, .sl (x2.map (eNum .u64)) .no⟩, ⟨14, none, .lit (.int .i64 (lenL x2))⟩, ⟨1, none, .lit (.int .i64 (minI (maxI x1 1) 8))⟩, ⟨0, none, .ptr 0 0⟩], [.opq (wrO 111 5 v2)]⟩ (AWp.reg Try.tyOk hΓ (keep := [15]) (dead := []) (by kernel_rfl) rfl (by simp)) ?_
        obtain rfl := some_inj hr
        exact round_go () 1 (by first | (simp; done) | simp [h6, h7])
    · have hr := cond_f h6 hr
      refine AWp.exit ?_
      obtain rfl := some_inj hr
      exact round_out () 1 (by first | (simp; done) | simp [h6])
  · refine AWp.conv hc ?_
    refine AWp.then ⟨[⟨6, none, .ptr 0 0⟩], [.opq (wrO 111 5 v1)]⟩ (AWp.reg Try.tyOk hΓ (keep := [6]) (dead := [0]) (by kernel_rfl) rfl (by simp)) ?_
    refine AWp.ret ?_
    obtain rfl := some_inj hr
    refine fin_ret ?_
    simp

@[simp] noncomputable def gOctetWriterNum.S : Sp
  | [.ptr i0 0, .lit (.int .i64 x1), .sl e2 _], M => match M[i0]? with
    | some (.opq c0) => some { av := .ptr i0 0, M := some (M.set i0 (.opq (wrO 111 5 ((gOctetWriterNum c0.bs x1 (e2.map decI)).getD dflt)))), obl := e2 = (e2.map decI).map (eNum .u64) ∧ c0 = wrO 111 5 c0.bs ∧ (gOctetWriterNum c0.bs x1 (e2.map decI)).isSome = true }
    | _ => none
  | _, _ => none

set_option maxHeartbeats 1000000 in
theorem gOctetWriterNum.ok : SpecOk Try.prog 50 gOctetWriterNum.S := by
  intro l M out h
  unfold gOctetWriterNum.S at h
  split at h
  · rename_i i0 x1 e2 k2
    split at h
    case h_2 => cases h
    rename_i c0 hM0
    cases h
    refine callOk_of fun ho => ?_
    obtain ⟨ox2, oc0, hs⟩ := ho
    generalize c0.bs = y0 at *
    generalize (e2.map decI) = x2 at *
    subst ox2
    subst oc0
    obtain ⟨r, hr⟩ := Option.isSome_iff_exists.1 hs
    simp only [hr, Option.getD_some]
    have q := call_frame (M := M) [i0] (gOctetWriterNum.can y0 x1 x2 r hr) (by simp) rfl (by intro k i hk; (cases k with | zero => (simp at hk; subst hk; simp [hM0]) | succ k => (simp at hk)))
    exact callOk_conv q trivial (by simp [into]) (by simp [frameOut, gOctetWriterNum.out, into]) (by simp [frameOut, gOctetWriterNum.out, into])
  · cases h

@[simp] def gOctetWriterU16.out (_x0 : List Int) (_x1 : List Int) (r : List Int) : Out := { av := .ptr 0 0, M := some [.opq (wrO 111 5 r)] }
def gOctetWriterU16.fin (x0 : List Int) (x1 : List Int) (r : List Int) (σ : St) : Prop := finK (gOctetWriterU16.out x0 x1 r) [.opq (wrO 111 5 x0)] σ.M (resA Try.ty σ.A σ.M Try.f38.results.toList)
set_option maxHeartbeats 4000000 in
set_option maxRecDepth 100000 in
theorem gOctetWriterU16.can (x0 : List Int) (x1 : List Int) (r : List Int) (hr : gOctetWriterU16 x0 x1 = some r) : CallOk Try.prog 38 [.ptr 0 0, .sl (x1.map (eNum .u16)) .no] [.opq (wrO 111 5 x0)] (gOctetWriterU16.out x0 x1 r) := by
  unfold gOctetWriterU16 at hr
  have hΓ := (gamL_cons gOctetWriterNum.ok (gamL_nil) : GamOk Try.prog _)
  refine call_of_awp Try.tyOk Try.func38 rfl (by kernel_rfl) rfl rfl (by simp) ?_
  intro _ _ _
  refine AWp.then ⟨[⟨0, none, .ptr 0 0⟩, ⟨1, none, .sl (x1.map (eNum .u16)) .no⟩], [.opq (wrO 111 5 x0)]⟩ (AWp.reg Try.tyOk hΓ (keep := []) (dead := []) (by kernel_rfl) rfl (by simp)) ?_
  refine AWp.seq ?_
  refine AWp.then ⟨[⟨7, none, .sl (x1.map (eNum .u16)) .no⟩, ⟨8, none, .lit (.int .i64 (lenL x1))⟩, ⟨9, none, .lit (.int .i64 0)⟩, ⟨0, none, .ptr 0 0⟩], [.opq (wrO 111 5 x0)]⟩ (AWp.reg Try.tyOk hΓ (keep := [7, 8, 9]) (dead := [1]) (by kernel_rfl) rfl (by simp)) ?_
  refine AWp.loopE (fun (s1 : Int × List Int) (γ1 : Unit) => ⟨[⟨7, none, .sl (x1.map (eNum .u16)) .no⟩, ⟨8, none, .lit (.int .i64 (lenL x1))⟩, ⟨9, none, .lit (.int .i64 s1.1)⟩, ⟨0, none, .ptr 0 0⟩], [.opq (wrO 111 5 s1.2)]⟩) (fun (v1 : List Int) (γ1a : Unit) => ⟨[⟨0, none, .ptr 0 0⟩], [.opq (wrO 111 5 v1)]⟩) (gOctetWriterU16.fin x0 x1) hr () 1 (by simp) (fun s1 f γ1 hr => ?_) (fun v1 γ1a σ1 m1 hr hc => ?_) (fun _ h => h)
  · unfold gOctetWriterU16.loop1 at hr
    refine AWp.then ⟨[⟨10, none, .lit (.bool (ltI s1.1 (lenL x1)))⟩, ⟨7, none, .sl (x1.map (eNum .u16)) .no⟩, ⟨8, none, .lit (.int .i64 (lenL x1))⟩, ⟨9, none, .lit (.int .i64 s1.1)⟩, ⟨0, none, .ptr 0 0⟩], [.opq (wrO 111 5 s1.2)]⟩ (AWp.reg Try.tyOk hΓ (keep := [10]) (dead := []) (by kernel_rfl) rfl (by simp)) ?_
    refine AWp.seq ?_
    refine AWp.cond (b := (ltI s1.1 (lenL x1))) (by simp) (fun h4 => ?_) (fun h4 => ?_)
    · have hr := cond_t h4 hr
      refine AWp.skip ?_
      refine AWp.seq ?_
      refine AWp.block ?_
      obtain ⟨h5, hr⟩ := need_some hr
      refine AWp.then ⟨[⟨6, none, .lit (.int .u16 (nthI x1 s1.1))⟩, ⟨7, none, .sl (x1.map (eNum .u16)) .no⟩, ⟨8, none, .lit (.int .i64 (lenL x1))⟩, ⟨9, none, .lit (.int .i64 s1.1)⟩, ⟨0, none, .ptr 0 0⟩], [.opq (wrO 111 5 s1.2)]⟩ (AWp.reg Try.tyOk hΓ (keep := [6]) (dead := [10]) (by kernel_rfl) rfl (by simp [h4, h5])) ?_
      obtain ⟨r1, h6, hr⟩ := bind_some' hr
      refine AWp.last ⟨[⟨7, none, .sl (x1.map (eNum .u16)) .no⟩, ⟨8, none, .lit (.int .i64 (lenL x1))⟩, ⟨9, none, .lit (.int .i64 s1.1)⟩, ⟨0, none, .ptr 0 0⟩], [.opq (wrO 111 5 r1)]⟩ (AWp.reg Try.tyOk hΓ (keep := []) (dead := [6]) (by kernel_rfl) rfl (by simp [h6])) ?_
      refine AWp.last ⟨[⟨9, none, .lit (.int .i64 (addI .i64 s1.1 1))⟩, ⟨7, none, .sl (x1.map (eNum .u16)) .no⟩, ⟨8, none, .lit (.int .i64 (lenL x1))⟩, ⟨0, none, .ptr 0 0⟩], [.opq (wrO 111 5 r1)]⟩ (AWp.reg Try.tyOk hΓ (keep := [9]) (dead := []) (by kernel_rfl) rfl (by simp)) ?_
      obtain rfl := some_inj hr
      exact round_go () 1 (by first | (simp; done) | simp [h4, h5, h6])
    · have hr := cond_f h4 hr
      refine AWp.exit ?_
      obtain rfl := some_inj hr
      exact round_out () 1 (by first | (simp; done) | simp [h4])
  · refine AWp.conv hc ?_
    refine AWp.then ⟨[⟨4, none, .ptr 0 0⟩], [.opq (wrO 111 5 v1)]⟩ (AWp.reg Try.tyOk hΓ (keep := [4]) (dead := [0]) (by kernel_rfl) rfl (by simp)) ?_
    refine AWp.ret ?_
    obtain rfl := some_inj hr
    refine fin_ret ?_
    simp

@[simp] noncomputable def gOctetWriterU16.S : Sp
  | [.ptr i0 0, .sl e1 _], M => match M[i0]? with
    | some (.opq c0) => some { av := .ptr i0 0, M := some (M.set i0 (.opq (wrO 111 5 ((gOctetWriterU16 c0.bs (e1.map decI)).getD dflt)))), obl := e1 = (e1.map decI).map (eNum .u16) ∧ c0 = wrO 111 5 c0.bs ∧ (gOctetWriterU16 c0.bs (e1.map decI)).isSome = true }
    | _ => none
  | _, _ => none

set_option maxHeartbeats 1000000 in
theorem gOctetWriterU16.ok : SpecOk Try.prog 38 gOctetWriterU16.S := by
  intro l M out h
  unfold gOctetWriterU16.S at h
  split at h
  · rename_i i0 e1 k1
    split at h
    case h_2 => cases h
    rename_i c0 hM0
    cases h
    refine callOk_of fun ho => ?_
    obtain ⟨ox1, oc0, hs⟩ := ho
    generalize c0.bs = y0 at *
    generalize (e1.map decI) = x1 at *
    subst ox1
    subst oc0
    obtain ⟨r, hr⟩ := Option.isSome_iff_exists.1 hs
    simp only [hr, Option.getD_some]
    have q := call_frame (M := M) [i0] (gOctetWriterU16.can y0 x1 r hr) (by simp) rfl (by intro k i hk; (cases k with | zero => (simp at hk; subst hk; simp [hM0]) | succ k => (simp at hk)))
    exact callOk_conv q trivial (by simp [into]) (by simp [frameOut, gOctetWriterU16.out, into]) (by simp [frameOut, gOctetWriterU16.out, into])
  · cases h
end Go.Proofs
