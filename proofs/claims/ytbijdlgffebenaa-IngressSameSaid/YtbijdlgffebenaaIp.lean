/- That the closure of IngressSame computes what its plain function does. No condition. -/
import Derived.Test.YtbijdlgffebenaaM12
import Derived.Test.YtbijdlgffebenaaTy
import Derived.Test.YtbijdlgffebenaaIg
namespace Go.Proofs
open Go.Ab
@[simp] def samePut.out (l : List Antiphonref03Packet) (_s : IngressSource) (_g : List FrameFrame) (_k : Int) (q : Nat) (r : List FrameFrame × IngressSource) : Out := { av := .tup [], M := some [.blk [.ptr 1 0], .blk [.ptr 2 0, .ptr 4 0, .lit (.bool r.2.fSeq.fBegun), .lit (.int .i64 r.2.fSeq.fMost), .lit (.int .u16 r.2.fSeq.fOdd), .lit (.int .i64 r.2.fSeq.fRun), .lit (.int .i64 r.2.fSeq.fJumps), .lit (.bool r.2.fClock.fBegun), .lit (.int .i64 r.2.fClock.fLast), .mp 5, .lit (.int .i64 r.2.fBad), .lit (.int .i64 r.2.fKeys)], .blk [.lit (.int .i64 r.2.fBuffer.fConfig.fMost), .lit (.int .i64 r.2.fBuffer.fConfig.fWait), .lit (.bool r.2.fBuffer.fBegun), .lit (.int .i64 r.2.fBuffer.fNext), .mp 3, .lit (.int .i64 r.2.fBuffer.fLost)], .mapo (encM (kI .i64) (vA Antiphonref09Thing.enc) r.2.fBuffer.fOf), .blk [.lit (.bool r.2.fMaker.fConfig.fVideo), .lit (.int .i64 r.2.fMaker.fConfig.fBytes), .lit (.int .i64 r.2.fMaker.fConfig.fUnits), .lit (.int .i64 r.2.fMaker.fConfig.fWait), .sl (r.2.fMaker.fOpen.fUnits.map Antiphonref10Unit.enc) .no, .lit (.int .i64 r.2.fMaker.fWhole), .lit (.int .i64 r.2.fMaker.fLost)], .mapo (encM (kI .i64) (vA Antiphonref03Packet.enc) r.2.fOf), .blk [.sl (l.map Antiphonref03Packet.enc) .no], .blk [.sl (r.1.map FrameFrame.enc) (.own 8 (q + 1) 1)], .room (q + 1)] }
set_option maxHeartbeats 4000000 in
set_option maxRecDepth 100000 in
theorem samePut.can (l : List Antiphonref03Packet) (s : IngressSource) (g : List FrameFrame) (k : Int) (q : Nat) (r : List FrameFrame × IngressSource) (hr : samePut l s g k = some r) : CallOk Try.prog 10 [.lit (.int .i64 k), .ptr 0 0, .ptr 6 0, .ptr 7 0] [.blk [.ptr 1 0], .blk ([.ptr 2 0, .ptr 4 0] ++ s.fSeq.enc ++ s.fClock.enc ++ [.mp 5, .lit (.int .i64 s.fBad), .lit (.int .i64 s.fKeys)]), .blk (s.fBuffer.fConfig.enc ++ [.lit (.bool s.fBuffer.fBegun), .lit (.int .i64 s.fBuffer.fNext), .mp 3, .lit (.int .i64 s.fBuffer.fLost)]), .mapo (encM (kI .i64) (vA Antiphonref09Thing.enc) s.fBuffer.fOf), .blk s.fMaker.enc, .mapo (encM (kI .i64) (vA Antiphonref03Packet.enc) s.fOf), .blk [.sl (l.map Antiphonref03Packet.enc) .no], .blk [.sl (g.map FrameFrame.enc) (.own 8 q 1)], .room q] (samePut.out l s g k q r) := by
  unfold samePut at hr
  have hΓ := (gamL_cons gIngressSourcePut.ok (gamL_nil) : GamOk Try.prog _)
  refine call_of_awp Try.tyOk Try.func10 rfl (by kernel_rfl) rfl rfl (by simp) ?_
  intro _ _ _
  obtain ⟨h1, hr⟩ := need_some hr
  obtain ⟨r1, h2, hr⟩ := bind_some' hr
  refine AWp.then ⟨[⟨5, none, .sl (r1.1.map FrameFrame.enc) .no⟩, ⟨3, none, .ptr 7 0⟩], [.blk [.ptr 1 0], .blk ([.ptr 2 0, .ptr 4 0] ++ r1.2.2.fSeq.enc ++ r1.2.2.fClock.enc ++ [.mp 5, .lit (.int .i64 r1.2.2.fBad), .lit (.int .i64 r1.2.2.fKeys)]), .blk (r1.2.2.fBuffer.fConfig.enc ++ [.lit (.bool r1.2.2.fBuffer.fBegun), .lit (.int .i64 r1.2.2.fBuffer.fNext), .mp 3, .lit (.int .i64 r1.2.2.fBuffer.fLost)]), .mapo (encM (kI .i64) (vA Antiphonref09Thing.enc) r1.2.2.fBuffer.fOf), .blk r1.2.2.fMaker.enc, .mapo (encM (kI .i64) (vA Antiphonref03Packet.enc) r1.2.2.fOf), .blk [.sl (l.map Antiphonref03Packet.enc) .no], .blk [.sl (g.map FrameFrame.enc) (.own 8 q 1)], .room q]⟩ (AWp.regD Try.mixed Try.tyOk hΓ (keep := [5]) (dead := [0, 1, 2]) [] [(false, []), (false, []), (false, []), (false, []), (false, []), (true, []), (false, []), (false, []), (false, []), (false, []), (false, [])] (by kernel_rfl) rfl (by simp [h1, h2])) ?_
  obtain ⟨h3, hr⟩ := need_some hr
  refine AWp.last ⟨[], [.blk [.ptr 1 0], .blk ([.ptr 2 0, .ptr 4 0] ++ r1.2.2.fSeq.enc ++ r1.2.2.fClock.enc ++ [.mp 5, .lit (.int .i64 r1.2.2.fBad), .lit (.int .i64 r1.2.2.fKeys)]), .blk (r1.2.2.fBuffer.fConfig.enc ++ [.lit (.bool r1.2.2.fBuffer.fBegun), .lit (.int .i64 r1.2.2.fBuffer.fNext), .mp 3, .lit (.int .i64 r1.2.2.fBuffer.fLost)]), .mapo (encM (kI .i64) (vA Antiphonref09Thing.enc) r1.2.2.fBuffer.fOf), .blk r1.2.2.fMaker.enc, .mapo (encM (kI .i64) (vA Antiphonref03Packet.enc) r1.2.2.fOf), .blk [.sl (l.map Antiphonref03Packet.enc) .no], .blk [.sl ((appL g r1.1).map FrameFrame.enc) (.own 8 (q + 1) 1)], .room (q + 1)]⟩ (AWp.reg Try.tyOk hΓ (keep := []) (dead := [5, 3]) (by kernel_rfl) rfl (by simp [h3])) ?_
  obtain rfl := some_inj hr
  refine fin_norm ?_
  simp

@[simp] noncomputable def samePut.S : Sp
  | [.lit (.int .i64 k), .ptr b0 0, .ptr b6 0, .ptr b7 0], M => match M[b0]? with
    | some (.blk c0) => (match nthE c0 0 with
    | some (.ptr i1 0) => (match M[i1]? with
    | some (.blk c1) => (match nthE c1 0 with
    | some (.ptr i2 0) => (match M[i2]? with
    | some (.blk c2) => (match nthE c2 4 with
    | some (.mp i3) => (match M[i3]? with
    | some (.mapo c3) => (match nthE c1 1 with
    | some (.ptr i4 0) => (match M[i4]? with
    | some (.blk c4) => (match nthE c1 9 with
    | some (.mp i5) => (match M[i5]? with
    | some (.mapo c5) => (match M[b6]? with
    | some (.blk c6) => (match nthE c6 0 with
    | some (.sl e6 .no) => (match M[b7]? with
    | some (.blk c7) => (match nthE c7 0 with
    | some (.sl e7 (.own b8 q _n7)) => (match M[b8]? with
    | some (.room q8) => (fun (y0 : IngressSource) => (fun (y1 : List Antiphonref03Packet) => (fun (y2 : List FrameFrame) => (fun (r : List FrameFrame × IngressSource) => some { av := .tup [], M := some (((((((M.set i1 (.blk [.ptr i2 0, .ptr i4 0, .lit (.bool r.2.fSeq.fBegun), .lit (.int .i64 r.2.fSeq.fMost), .lit (.int .u16 r.2.fSeq.fOdd), .lit (.int .i64 r.2.fSeq.fRun), .lit (.int .i64 r.2.fSeq.fJumps), .lit (.bool r.2.fClock.fBegun), .lit (.int .i64 r.2.fClock.fLast), .mp i5, .lit (.int .i64 r.2.fBad), .lit (.int .i64 r.2.fKeys)])).set i2 (.blk [.lit (.int .i64 r.2.fBuffer.fConfig.fMost), .lit (.int .i64 r.2.fBuffer.fConfig.fWait), .lit (.bool r.2.fBuffer.fBegun), .lit (.int .i64 r.2.fBuffer.fNext), .mp i3, .lit (.int .i64 r.2.fBuffer.fLost)])).set i3 (.mapo (encM (kI .i64) (vA Antiphonref09Thing.enc) r.2.fBuffer.fOf))).set i4 (.blk [.lit (.bool r.2.fMaker.fConfig.fVideo), .lit (.int .i64 r.2.fMaker.fConfig.fBytes), .lit (.int .i64 r.2.fMaker.fConfig.fUnits), .lit (.int .i64 r.2.fMaker.fConfig.fWait), .sl (r.2.fMaker.fOpen.fUnits.map Antiphonref10Unit.enc) .no, .lit (.int .i64 r.2.fMaker.fWhole), .lit (.int .i64 r.2.fMaker.fLost)])).set i5 (.mapo (encM (kI .i64) (vA Antiphonref03Packet.enc) r.2.fOf))).set b7 (.blk [.sl (r.1.map FrameFrame.enc) (.own b8 (q + 1) 1)])).set b8 (.room (q + 1))), obl := c0 = [.ptr i1 0] ∧ c1 = IngressSource.enc y0 i2 i4 i5 ∧ c2 = ReorderBuffer.enc (y0.fBuffer) i3 ∧ c3 = encM (kI .i64) (vA Antiphonref09Thing.enc) (y0.fBuffer.fOf) ∧ c4 = FrameMaker.enc (y0.fMaker) ∧ c5 = encM (kI .i64) (vA Antiphonref03Packet.enc) (y0.fOf) ∧ c6 = [.sl (y1.map Antiphonref03Packet.enc) .no] ∧ c7 = [.sl (y2.map FrameFrame.enc) (.own b8 q 1)] ∧ q8 = q ∧ (samePut y1 y0 y2 k).isSome = true ∧ b0 ≠ i1 ∧ b0 ≠ i2 ∧ b0 ≠ i3 ∧ b0 ≠ i4 ∧ b0 ≠ i5 ∧ b0 ≠ b6 ∧ b0 ≠ b7 ∧ b0 ≠ b8 ∧ i1 ≠ i2 ∧ i1 ≠ i3 ∧ i1 ≠ i4 ∧ i1 ≠ i5 ∧ i1 ≠ b6 ∧ i1 ≠ b7 ∧ i1 ≠ b8 ∧ i2 ≠ i3 ∧ i2 ≠ i4 ∧ i2 ≠ i5 ∧ i2 ≠ b6 ∧ i2 ≠ b7 ∧ i2 ≠ b8 ∧ i3 ≠ i4 ∧ i3 ≠ i5 ∧ i3 ≠ b6 ∧ i3 ≠ b7 ∧ i3 ≠ b8 ∧ i4 ≠ i5 ∧ i4 ≠ b6 ∧ i4 ≠ b7 ∧ i4 ≠ b8 ∧ i5 ≠ b6 ∧ i5 ≠ b7 ∧ i5 ≠ b8 ∧ b6 ≠ b7 ∧ b6 ≠ b8 ∧ b7 ≠ b8 }) ((samePut y1 y0 y2 k).getD dflt)) (e7.map FrameFrame.dec)) (e6.map Antiphonref03Packet.dec)) (IngressSource.dec c1 (ReorderBuffer.dec c2 (decM dkI (dvA Antiphonref09Thing.dec) c3)) (FrameMaker.dec c4) (decM dkI (dvA Antiphonref03Packet.dec) c5))
    | _ => none)
    | _ => none)
    | _ => none)
    | _ => none)
    | _ => none)
    | _ => none)
    | _ => none)
    | _ => none)
    | _ => none)
    | _ => none)
    | _ => none)
    | _ => none)
    | _ => none)
    | _ => none)
    | _ => none)
    | _ => none
  | _, _ => none

set_option maxHeartbeats 2000000 in
theorem samePut.ok : SpecOk Try.prog 10 samePut.S := by
  intro l M out h
  unfold samePut.S at h
  split at h
  · rename_i k b0 b6 b7
    split at h
    case h_2 => cases h
    rename_i c0 hM0
    split at h
    case h_2 => cases h
    rename_i i1 he0
    split at h
    case h_2 => cases h
    rename_i c1 hM1
    split at h
    case h_2 => cases h
    rename_i i2 he1
    split at h
    case h_2 => cases h
    rename_i c2 hM2
    split at h
    case h_2 => cases h
    rename_i i3 he2
    split at h
    case h_2 => cases h
    rename_i c3 hM3
    split at h
    case h_2 => cases h
    rename_i i4 he3
    split at h
    case h_2 => cases h
    rename_i c4 hM4
    split at h
    case h_2 => cases h
    rename_i i5 he4
    split at h
    case h_2 => cases h
    rename_i c5 hM5
    split at h
    case h_2 => cases h
    rename_i c6 hM6
    split at h
    case h_2 => cases h
    rename_i e6 he6
    split at h
    case h_2 => cases h
    rename_i c7 hM7
    split at h
    case h_2 => cases h
    rename_i e7 b8 q n7 he5
    split at h
    case h_2 => cases h
    rename_i q8 hM8
    try dsimp only at h
    cases h
    refine callOk_of fun ho => ?_
    obtain ⟨oc0, oc1, oc2, oc3, oc4, oc5, oc6, oc7, oq, hs, hne0, hne1, hne2, hne3, hne4, hne5, hne6, hne7, hne8, hne9, hne10, hne11, hne12, hne13, hne14, hne15, hne16, hne17, hne18, hne19, hne20, hne21, hne22, hne23, hne24, hne25, hne26, hne27, hne28, hne29, hne30, hne31, hne32, hne33, hne34, hne35⟩ := ho
    generalize (IngressSource.dec c1 (ReorderBuffer.dec c2 (decM dkI (dvA Antiphonref09Thing.dec) c3)) (FrameMaker.dec c4) (decM dkI (dvA Antiphonref03Packet.dec) c5)) = y0 at *
    generalize (e6.map Antiphonref03Packet.dec) = y1 at *
    generalize (e7.map FrameFrame.dec) = y2 at *
    subst oc0
    subst oc1
    subst oc2
    subst oc3
    subst oc4
    subst oc5
    subst oc6
    subst oc7
    subst oq
    obtain ⟨r, hr⟩ := Option.isSome_iff_exists.1 hs
    simp only [hr, Option.getD_some]
    have q := call_frame (M := M) [b0, i1, i2, i3, i4, i5, b6, b7, b8] (samePut.can y1 y0 y2 k q8 r hr) (by simp [hne0, hne1, hne2, hne3, hne4, hne5, hne6, hne7, hne8, hne9, hne10, hne11, hne12, hne13, hne14, hne15, hne16, hne17, hne18, hne19, hne20, hne21, hne22, hne23, hne24, hne25, hne26, hne27, hne28, hne29, hne30, hne31, hne32, hne33, hne34, hne35]) rfl (by intro k i hk; (cases k with | zero => (simp at hk; subst hk; simp [hM0, into]) | succ k => ((cases k with | zero => (simp at hk; subst hk; simp [hM1, into]) | succ k => ((cases k with | zero => (simp at hk; subst hk; simp [hM2, into]) | succ k => ((cases k with | zero => (simp at hk; subst hk; simp [hM3]) | succ k => ((cases k with | zero => (simp at hk; subst hk; simp [hM4]) | succ k => ((cases k with | zero => (simp at hk; subst hk; simp [hM5]) | succ k => ((cases k with | zero => (simp at hk; subst hk; simp [hM6]) | succ k => ((cases k with | zero => (simp at hk; subst hk; simp [hM7, into]) | succ k => ((cases k with | zero => (simp at hk; subst hk; simp [hM8]) | succ k => (simp at hk)))))))))))))))))))
    exact callOk_conv q trivial (by simp [into]) (by simp [frameOut, samePut.out, into]) (by simp [frameOut, samePut.out, into, set_same, hM0, hM6, hne12, hne18, hne23, hne27, hne30])
  · cases h
end Go.Proofs
