/- That these functions compute what their plain functions do. No condition. -/
import Derived.Test.YtnoeflijefijcaaM03
import Derived.Test.YtnoeflijefijcaaTy
import Derived.Test.YtnoeflijefijcaaDc
import Derived.Test.YtnoeflijefijcaaEc
import Derived.Test.YtnoeflijefijcaaQu
import Derived.Test.YtnoeflijefijcaaEa
import Derived.Test.YtnoeflijefijcaaM02
set_option maxRecDepth 100000
set_option maxHeartbeats 4000000
namespace Go.Proofs
open Go.Ab
@[simp] def gi.out (_x0 : Tg) (r : Int × Bool × Tg) : Out := { av := .tup [.lit (.int .i64 r.1), .lit (.bool r.2.1)], M := some [.blk [.lit (.int .i64 r.2.2.fe.fh), .lit (.int .i64 r.2.2.fe.fo), .lit (.int .i64 r.2.2.fe.fu), .lit (.int .i64 r.2.2.fe.fb), .lit (.int .i64 r.2.2.fe.fp), .mp 1, .ptr 2 0, .lit (.int .i64 r.2.2.fc), .lit (.int .i64 r.2.2.fd)], .own (Td.own .i64 r.2.2.fg none) none, .blk [.lit (.int .i64 r.2.2.fa.fb), .mp 3, .mp 4, .lit (.int .i64 r.2.2.fa.fAt), .lit (.bool r.2.2.fa.ff)], .mapo (encM (kI .i64) (kI .i64) r.2.2.fa.fj), .mapo (encM (kI .i64) (kI .i64) r.2.2.fa.fk)] }
def gi.fin (x0 : Tg) (r : Int × Bool × Tg) (σ : St) : Prop := finK (gi.out x0 r) [.blk (x0.fe.enc ++ [.mp 1, .ptr 2 0, .lit (.int .i64 x0.fc), .lit (.int .i64 x0.fd)]), .own (Td.own .i64 x0.fg none) none, .blk [.lit (.int .i64 x0.fa.fb), .mp 3, .mp 4, .lit (.int .i64 x0.fa.fAt), .lit (.bool x0.fa.ff)], .mapo (encM (kI .i64) (kI .i64) x0.fa.fj), .mapo (encM (kI .i64) (kI .i64) x0.fa.fk)] σ.M (resA Try.ty σ.A σ.M Try.f41.results.toList)
theorem gi.can (x0 : Tg) (r : Int × Bool × Tg) (hr : gi x0 = some r) : CallOk Try.prog 41 [.ptr 0 0] [.blk (x0.fe.enc ++ [.mp 1, .ptr 2 0, .lit (.int .i64 x0.fc), .lit (.int .i64 x0.fd)]), .own (Td.own .i64 x0.fg none) none, .blk [.lit (.int .i64 x0.fa.fb), .mp 3, .mp 4, .lit (.int .i64 x0.fa.fAt), .lit (.bool x0.fa.ff)], .mapo (encM (kI .i64) (kI .i64) x0.fa.fj), .mapo (encM (kI .i64) (kI .i64) x0.fa.fk)] (gi.out x0 r) := by
 unfold gi at hr
 have hΓ := (gamL_cons gg.ok (gamL_cons gC.ok (gamL_cons gak.ok (gamL_cons gF.ok (gamL_nil)))) : GamOk Try.prog _)
 refine Lg Try.tyOk Try.func41 rfl (by kernel_rfl) rfl rfl (by simp) ?_
 intro _ _ _
 refine Try.tg hΓ [] [] (by kernel_rfl) rfl (by simp; exact rr) ?_
 obtain ⟨r1, h11, hr⟩ := Lc hr
 obtain ⟨r2, h12, hr⟩ := Lc hr
 refine Try.tg hΓ [4, 5] [] (by kernel_rfl) rfl (by simp [h11, h12]; exact rr) ?_
 refine AWp.seq ?_
 refine Try.td hΓ [34] [] [] [(false, []), (false, []), (false, []), (false, []), (false, [18]), (false, [18]), (false, [18]), (false, [18]), (false, [18]), (false, [18]), (false, [18]), (false, [18]), (false, [18]), (false, [18]), (false, [18]), (false, [29, 18]), (false, [29, 18]), (false, [29, 18]), (false, [18]), (false, [])] (by kernel_rfl) rfl (by simp; exact rr) ?_
 refine AWp.cond (b := (pickB (ltI 0 (lenL r1)) (pickB (ltI x0.fd x0.fe.fp) true (eqI (lenL r2) 0)) false)) (by simp) (fun h13 => ?_) (fun h13 => ?_)
 ·have hr := Li h13 hr
  obtain ⟨r3, h14, hr⟩ := Lc hr
  refine Try.tg hΓ [2, 3] [34, 4, 5, 0] (by kernel_rfl) rfl (by simp [h13, h14]; exact rr) ?_
  refine AWp.ret ?_
  obtain rfl := La hr
  refine Lf ?_
  simp
 ·have hr := Lj h13 hr
  refine AWp.skip ?_
  refine Try.tg hΓ [6] [34, 4] (by kernel_rfl) rfl (by simp [h13]; exact rr) ?_
  refine AWp.seq ?_
  refine Try.tg hΓ [38, 39, 40] [5] (by kernel_rfl) rfl (by simp; exact rr) ?_
  refine AWp.equip 6 2 (els := []) (by simp) (by simp) ?_
  refine AWp.loopE (fun (s1 : Int × List Tk) (γ1 : Nat) => ⟨[⟨38, none, .sl (r2.map (eNum .i64)) .no⟩, ⟨39, none, .n (lenL r2)⟩, ⟨40, none, .n s1.1⟩, ⟨6, none, .sl (s1.2.map Tk.enc) (.own 5 (γ1) 2)⟩, ⟨0, none, .ptr 0 0⟩], [.blk (x0.fe.enc ++ [.mp 1, .ptr 2 0, .n x0.fc, .n x0.fd]), .own (Td.own .i64 x0.fg none) none, .blk [.n x0.fa.fb, .mp 3, .mp 4, .n x0.fa.fAt, .b x0.fa.ff], .mapo (encM (kI .i64) (kI .i64) x0.fa.fj), .mapo (encM (kI .i64) (kI .i64) x0.fa.fk), .room (γ1)]⟩) (fun (v1 : List Tk) (γ1a : Nat) => ⟨[⟨6, none, .sl (v1.map Tk.enc) (.own 5 (γ1a) 2)⟩, ⟨0, none, .ptr 0 0⟩], [.blk (x0.fe.enc ++ [.mp 1, .ptr 2 0, .n x0.fc, .n x0.fd]), .own (Td.own .i64 x0.fg none) none, .blk [.n x0.fa.fb, .mp 3, .mp 4, .n x0.fa.fAt, .b x0.fa.ff], .mapo (encM (kI .i64) (kI .i64) x0.fa.fj), .mapo (encM (kI .i64) (kI .i64) x0.fa.fk), .room (γ1a)]⟩) (gi.fin x0) hr 0 6 (by simp) (fun s1 f γ1 hr => ?_) (fun v1 γ1a σ1 m1 hr hc => ?_) (fun _ h => h)
  ·unfold gi.loop1 at hr
   refine Try.tg hΓ [41] [] (by kernel_rfl) rfl (by simp; exact rr) ?_
   refine AWp.seq ?_
   refine AWp.cond (b := (ltI s1.1 (lenL r2))) (by simp) (fun h15 => ?_) (fun h15 => ?_)
   ·have hr := Li h15 hr
    refine AWp.skip ?_
    refine AWp.seq ?_
    refine AWp.block ?_
    obtain ⟨h16, hr⟩ := Lb hr
    refine Try.tg hΓ [8] [41] (by kernel_rfl) rfl (by simp [h15, h16]; exact rr) ?_
    cases h17 : findM eqI (nthI r2 s1.1) x0.fg with
    | none =>
     have hr := optC_n h17 hr
     refine AWp.see (See.missI (M' := [.blk (x0.fe.enc ++ [.mp 1, .ptr 2 0, .n x0.fc, .n x0.fd]), .own (Td.own .i64 x0.fg none) (some (.int .i64 (nthI r2 s1.1), none)), .blk [.n x0.fa.fb, .mp 3, .mp 4, .n x0.fa.fAt, .b x0.fa.ff], .mapo (encM (kI .i64) (kI .i64) x0.fa.fj), .mapo (encM (kI .i64) (kI .i64) x0.fa.fk), .room (γ1)]) 1 (nthI r2 s1.1) x0.fg h17 (by rfl) (by rfl)) ?_
     cases hr
    | some z3 =>
     have hr := optC_s h17 hr
     refine AWp.see (See.openI (M' := [.blk (x0.fe.enc ++ [.mp 1, .ptr 2 0, .n x0.fc, .n x0.fd]), .own (Td.own .i64 x0.fg (some (.int .i64 (nthI r2 s1.1)))) (some (.int .i64 (nthI r2 s1.1), some (.agg [.ptr 6 0, .b z3.fq]))), .blk [.n x0.fa.fb, .mp 3, .mp 4, .n x0.fa.fAt, .b x0.fa.ff], .mapo (encM (kI .i64) (kI .i64) x0.fa.fj), .mapo (encM (kI .i64) (kI .i64) x0.fa.fk), .room (γ1), .blk z3.fA.enc]) 1 (nthI r2 s1.1) z3 x0.fg h17 (by rfl) (by simp)) ?_
     obtain ⟨r4, h18, hr⟩ := Lc hr
     refine Try.tg hΓ [9] [] (by kernel_rfl) rfl (by simp [h18]; exact rr) ?_
     obtain ⟨h19, hr⟩ := Lb hr
     refine AWp.lst (AWp.reg Try.tyOk hΓ [6] [9, 8] (by kernel_rfl) rfl (by simp [h19]; exact rr)) ?_
     refine AWp.lstE (AWp.reg Try.tyOk hΓ [40] [] (by kernel_rfl) rfl (by simp; exact rr)) ?_
     refine Eps.see (See.closeS (M' := [.blk (x0.fe.enc ++ [.mp 1, .ptr 2 0, .lit (.int .i64 x0.fc), .lit (.int .i64 x0.fd)]), .own (Td.own .i64 x0.fg none) none, .blk [.lit (.int .i64 x0.fa.fb), .mp 3, .mp 4, .lit (.int .i64 x0.fa.fAt), .lit (.bool x0.fa.ff)], .mapo (encM (kI .i64) (kI .i64) x0.fa.fj), .mapo (encM (kI .i64) (kI .i64) x0.fa.fk), .room (γ1 + 1), .dead, .blk r4.1.enc]) 1 (nthI r2 s1.1) z3 x0.fg [6] h17 (by rfl) (by decide) (by simp) (by simp [into]) (by simp) (by rfl)) ?_
     refine Eps.done ?_
     obtain rfl := La hr
     exact Lm (γ1 + 1) 6 (by first | (simp; done) | simp [h11, h12, h13, h15, h16, h18, h19])
   ·have hr := Lj h15 hr
    refine AWp.exit ?_
    obtain rfl := La hr
    exact Lp (γ1) 6 (by first | (simp; done) | simp [h11, h12, h13, h15])
  ·refine AWp.conv hc ?_
   obtain ⟨r5, h20, hr⟩ := Lc hr
   refine Try.tg hΓ [2, 3] [6, 0] (by kernel_rfl) rfl (by simp [h20]; exact rr) ?_
   refine AWp.ret ?_
   obtain rfl := La hr
   refine Lf ?_
   simp

@[simp] noncomputable def gi.S : Sp
 | [.ptr i0 0], M => match M[i0]? with
  | some (.blk c0) => (match nthE c0 5 with
  | some (.mp i1) => (match M[i1]? with
  | some (.own c1 none) => (match nthE c0 6 with
  | some (.ptr i2 0) => (match M[i2]? with
  | some (.blk c2) => (match nthE c2 1 with
  | some (.mp i3) => (match M[i3]? with
  | some (.mapo c3) => (match nthE c2 2 with
  | some (.mp i4) => (match M[i4]? with
  | some (.mapo c4) => (fun (y0 : Tg) => (fun (r : Int × Bool × Tg) => some { av := .tup [.lit (.int .i64 (r.1)), .lit (.bool (r.2.1))], M := some (((((M.set i0 (.blk [.lit (.int .i64 (r.2.2.fe.fh)), .lit (.int .i64 (r.2.2.fe.fo)), .lit (.int .i64 (r.2.2.fe.fu)), .lit (.int .i64 (r.2.2.fe.fb)), .lit (.int .i64 (r.2.2.fe.fp)), .mp i1, .ptr i2 0, .lit (.int .i64 (r.2.2.fc)), .lit (.int .i64 (r.2.2.fd))])).set i1 (.own (Td.own .i64 (r.2.2.fg) none) none)).set i2 (.blk [.lit (.int .i64 (r.2.2.fa.fb)), .mp i3, .mp i4, .lit (.int .i64 (r.2.2.fa.fAt)), .lit (.bool (r.2.2.fa.ff))])).set i3 (.mapo (encM (kI .i64) (kI .i64) (r.2.2.fa.fj)))).set i4 (.mapo (encM (kI .i64) (kI .i64) (r.2.2.fa.fk)))), obl := c0 = Tg.enc y0 i1 i2 ∧ c1 = Td.own .i64 (y0.fg) none ∧ c2 = Tq.enc (y0.fa) i3 i4 ∧ c3 = encM (kI .i64) (kI .i64) (y0.fa.fj) ∧ c4 = encM (kI .i64) (kI .i64) (y0.fa.fk) ∧ (gi y0).isSome = true ∧ i0 ≠ i1 ∧ i0 ≠ i2 ∧ i0 ≠ i3 ∧ i0 ≠ i4 ∧ i1 ≠ i2 ∧ i1 ≠ i3 ∧ i1 ≠ i4 ∧ i2 ≠ i3 ∧ i2 ≠ i4 ∧ i3 ≠ i4 }) ((gi y0).getD dflt)) (Tg.dec c0 (decM dkI Td.dfl c1.data) (Tq.dec c2 (decM dkI dkI c3) (decM dkI dkI c4)))
  | _ => none)
  | _ => none)
  | _ => none)
  | _ => none)
  | _ => none)
  | _ => none)
  | _ => none)
  | _ => none)
  | _ => none
 | _, _ => none

theorem gi.ok : SpecOk Try.prog 41 gi.S := by
 intro l M out h
 unfold gi.S at h
 split at h
 ·rename_i i0
  split at h
  case h_2 => cases h
  rename_i c0 hM0
  split at h
  case h_2 => cases h
  rename_i i1 he1
  split at h
  case h_2 => cases h
  rename_i c1 hM1
  split at h
  case h_2 => cases h
  rename_i i2 he2
  split at h
  case h_2 => cases h
  rename_i c2 hM2
  split at h
  case h_2 => cases h
  rename_i i3 he3
  split at h
  case h_2 => cases h
  rename_i c3 hM3
  split at h
  case h_2 => cases h
  rename_i i4 he4
  split at h
  case h_2 => cases h
  rename_i c4 hM4
  try dsimp only at h
  cases h
  refine callOk_of fun ho => ?_
  obtain ⟨oc0, oc1, oc2, oc3, oc4, hs, hne0, hne1, hne2, hne3, hne4, hne5, hne6, hne7, hne8, hne9⟩ := ho
  generalize (Tg.dec c0 (decM dkI Td.dfl c1.data) (Tq.dec c2 (decM dkI dkI c3) (decM dkI dkI c4))) = y0 at *
  subst oc0
  subst oc1
  subst oc2
  subst oc3
  subst oc4
  obtain ⟨r, hr⟩ := Option.isSome_iff_exists.1 hs
  simp only [hr, Option.getD_some]
  have q := Lk (M := M) [i0, i1, i2, i3, i4] (gi.can y0 r hr) (by simp [hne0, hne1, hne2, hne3, hne4, hne5, hne6, hne7, hne8, hne9]) rfl (by intro k i hk; (cases k with | zero => (simp at hk; subst hk; simp [hM0, into]) | succ k => ((cases k with | zero => (simp at hk; subst hk; simp [hM1]) | succ k => ((cases k with | zero => (simp at hk; subst hk; simp [hM2, into]) | succ k => ((cases k with | zero => (simp at hk; subst hk; simp [hM3]) | succ k => ((cases k with | zero => (simp at hk; subst hk; simp [hM4]) | succ k => (simp at hk)))))))))))
  exact callOk_conv q trivial (by simp [into]) (by simp [frameOut, gi.out, into]) (by simp [frameOut, gi.out, into])
 ·cases h

@[simp] def gt.out (_x0 : Tg) (r : List Tc × Tg) : Out := { av := .sl (r.1.map Tc.enc) .no, M := some [.blk [.lit (.int .i64 r.2.fe.fh), .lit (.int .i64 r.2.fe.fo), .lit (.int .i64 r.2.fe.fu), .lit (.int .i64 r.2.fe.fb), .lit (.int .i64 r.2.fe.fp), .mp 1, .ptr 2 0, .lit (.int .i64 r.2.fc), .lit (.int .i64 r.2.fd)], .own (Td.own .i64 r.2.fg none) none, .blk [.lit (.int .i64 r.2.fa.fb), .mp 3, .mp 4, .lit (.int .i64 r.2.fa.fAt), .lit (.bool r.2.fa.ff)], .mapo (encM (kI .i64) (kI .i64) r.2.fa.fj), .mapo (encM (kI .i64) (kI .i64) r.2.fa.fk)] }
def gt.fin (x0 : Tg) (r : List Tc × Tg) (σ : St) : Prop := finK (gt.out x0 r) [.blk (x0.fe.enc ++ [.mp 1, .ptr 2 0, .lit (.int .i64 x0.fc), .lit (.int .i64 x0.fd)]), .own (Td.own .i64 x0.fg none) none, .blk [.lit (.int .i64 x0.fa.fb), .mp 3, .mp 4, .lit (.int .i64 x0.fa.fAt), .lit (.bool x0.fa.ff)], .mapo (encM (kI .i64) (kI .i64) x0.fa.fj), .mapo (encM (kI .i64) (kI .i64) x0.fa.fk)] σ.M (resA Try.ty σ.A σ.M Try.f24.results.toList)
theorem gt.can (x0 : Tg) (r : List Tc × Tg) (hr : gt x0 = some r) : CallOk Try.prog 24 [.ptr 0 0] [.blk (x0.fe.enc ++ [.mp 1, .ptr 2 0, .lit (.int .i64 x0.fc), .lit (.int .i64 x0.fd)]), .own (Td.own .i64 x0.fg none) none, .blk [.lit (.int .i64 x0.fa.fb), .mp 3, .mp 4, .lit (.int .i64 x0.fa.fAt), .lit (.bool x0.fa.ff)], .mapo (encM (kI .i64) (kI .i64) x0.fa.fj), .mapo (encM (kI .i64) (kI .i64) x0.fa.fk)] (gt.out x0 r) := by
 unfold gt at hr
 have hΓ := (gamL_cons gaj.ok (gamL_cons gi.ok (gamL_cons gF.ok (gamL_cons gap.ok (gamL_nil)))) : GamOk Try.prog _)
 refine Lg Try.tyOk Try.func24 rfl (by kernel_rfl) rfl rfl (by simp) ?_
 intro _ _ _
 refine Try.tg hΓ [] [] (by kernel_rfl) rfl (by simp; exact rr) ?_
 refine Try.tg hΓ [3] [] (by kernel_rfl) rfl (by simp; exact rr) ?_
 refine AWp.equip 3 5 (els := []) (by simp) (by simp) ?_
 refine AWp.loopE (fun (s1 : List Tc × Tl × Int × Int × (List (Int × Td)) × Int × Int × Bool × (List (Int × Int)) × (List (Int × Int))) (γ1 : Nat) => ⟨[⟨3, none, .sl (s1.1.map Tc.enc) (.own 5 (γ1) 5)⟩, ⟨0, none, .ptr 0 0⟩], [.blk (s1.2.1.enc ++ [.mp 1, .ptr 2 0, .n s1.2.2.1, .n s1.2.2.2.1]), .own (Td.own .i64 s1.2.2.2.2.1 none) none, .blk [.n s1.2.2.2.2.2.1, .mp 3, .mp 4, .n s1.2.2.2.2.2.2.1, .b s1.2.2.2.2.2.2.2.1], .mapo (encM (kI .i64) (kI .i64) s1.2.2.2.2.2.2.2.2.1), .mapo (encM (kI .i64) (kI .i64) s1.2.2.2.2.2.2.2.2.2), .room (γ1)]⟩) (fun (v1 : Unit) (γ1a : Unit) => ⟨[], []⟩) (gt.fin x0) hr 0 6 (by simp) (fun s1 f γ1 hr => ?_) (fun v1 γ1a σ1 m1 hr hc => ?_) (fun _ h => h)
 ·unfold gt.loop1 at hr
  refine AWp.block ?_
  obtain ⟨r1, h10, hr⟩ := Lc hr
  refine Try.tg hΓ [4, 5] [] (by kernel_rfl) rfl (by simp [h10]; exact rr) ?_
  refine AWp.seq ?_
  refine Try.tg hΓ [15] [5] (by kernel_rfl) rfl (by simp; exact rr) ?_
  refine AWp.cond (b := (notB r1.2.1)) (by simp) (fun h11 => ?_) (fun h11 => ?_)
  ·have hr := Li h11 hr
   refine Try.tg hΓ [2] [15, 4, 3, 0] (by kernel_rfl) rfl (by simp [h11]; exact rr) ?_
   refine AWp.ret ?_
   obtain rfl := La hr
   refine round_ret ?_
   refine Lf ?_
   simp
  ·have hr := Lj h11 hr
   refine AWp.skip ?_
   cases h12 : findM eqI r1.1 r1.2.2.fg with
   | none =>
    have hr := optC_n h12 hr
    refine AWp.see (See.missI (M' := [.blk (r1.2.2.fe.enc ++ [.mp 1, .ptr 2 0, .n r1.2.2.fc, .n r1.2.2.fd]), .own (Td.own .i64 r1.2.2.fg none) (some (.int .i64 r1.1, none)), .blk [.n r1.2.2.fa.fb, .mp 3, .mp 4, .n r1.2.2.fa.fAt, .b r1.2.2.fa.ff], .mapo (encM (kI .i64) (kI .i64) r1.2.2.fa.fj), .mapo (encM (kI .i64) (kI .i64) r1.2.2.fa.fk), .room (γ1)]) 1 r1.1 r1.2.2.fg h12 (by rfl) (by rfl)) ?_
    refine Try.tg hΓ [6] [15] (by kernel_rfl) rfl (by simp [h11]; exact rr) ?_
    refine AWp.seq ?_
    cases hr
   | some z3 =>
    have hr := optC_s h12 hr
    refine AWp.see (See.openI (M' := [.blk (r1.2.2.fe.enc ++ [.mp 1, .ptr 2 0, .n r1.2.2.fc, .n r1.2.2.fd]), .own (Td.own .i64 r1.2.2.fg (some (.int .i64 r1.1))) (some (.int .i64 r1.1, some (.agg [.ptr 6 0, .b z3.fq]))), .blk [.n r1.2.2.fa.fb, .mp 3, .mp 4, .n r1.2.2.fa.fAt, .b r1.2.2.fa.ff], .mapo (encM (kI .i64) (kI .i64) r1.2.2.fa.fj), .mapo (encM (kI .i64) (kI .i64) r1.2.2.fa.fk), .room (γ1), .blk z3.fA.enc]) 1 r1.1 z3 r1.2.2.fg h12 (by rfl) (by simp)) ?_
    refine Try.tg hΓ [6] [15] (by kernel_rfl) rfl (by simp [h11]; exact rr) ?_
    obtain ⟨r2, h13, hr⟩ := Lc hr
    refine Try.tg hΓ [7] [] (by kernel_rfl) rfl (by simp [h13]; exact rr) ?_
    refine AWp.seq ?_
    refine Try.td hΓ [35] [] [] [(false, []), (false, []), (false, []), (false, []), (false, []), (false, []), (false, [])] (by kernel_rfl) rfl (by simp; exact rr) ?_
    refine AWp.cond (b := (ltI r1.2.2.fc r2.1.fm)) (by simp) (fun h14 => ?_) (fun h14 => ?_)
    ·have hr := Li h14 hr
     refine Try.tg hΓ [2] [35, 7, 6, 4, 3, 0] (by kernel_rfl) rfl (by simp [h14]; exact rr) ?_
     refine AWp.see (See.closeS (M' := [.blk (r1.2.2.fe.enc ++ [.mp 1, .ptr 2 0, .n r1.2.2.fc, .n r1.2.2.fd]), .own (Td.own .i64 r1.2.2.fg none) none, .blk [.n r1.2.2.fa.fb, .mp 3, .mp 4, .n r1.2.2.fa.fAt, .b r1.2.2.fa.ff], .mapo (encM (kI .i64) (kI .i64) r1.2.2.fa.fj), .mapo (encM (kI .i64) (kI .i64) r1.2.2.fa.fk), .room (γ1), .dead, .blk [.ptr 6 0, .b z3.fq], .blk r2.1.enc]) 1 r1.1 z3 r1.2.2.fg [6] h12 (by rfl) (by decide) (by simp) (by simp [into]) (by simp) (by rfl)) ?_
     refine AWp.ret ?_
     obtain rfl := La hr
     refine round_ret ?_
     refine Lf ?_
     simp
    ·have hr := Lj h14 hr
     refine AWp.skip ?_
     obtain ⟨r3, h15, hr⟩ := Lc hr
     refine Try.tg hΓ [] [35] (by kernel_rfl) rfl (by simp [h14, h15]; exact rr) ?_
     refine Try.td hΓ [] [] [] [(false, []), (false, []), (false, []), (false, []), (false, []), (false, []), (false, []), (false, []), (false, []), (true, [])] (by kernel_rfl) rfl (by simp; exact rr) ?_
     refine AWp.meetF (fun (v2 : Int × Int × Bool × (List (Int × Int)) × (List (Int × Int)) × Int × Bool) (γ2 : Unit) => ⟨[⟨7, none, .ptr 8 0⟩, ⟨4, none, .n r1.1⟩, ⟨3, none, .sl (s1.1.map Tc.enc) (.own 5 (γ1) 5)⟩, ⟨0, none, .ptr 0 0⟩], [.blk (r1.2.2.fe.enc ++ [.mp 1, .ptr 2 0, .n (subI .i64 r1.2.2.fc r2.1.fm), .n v2.2.2.2.2.2.1]), .own (Td.own .i64 r1.2.2.fg (some (.int .i64 r1.1))) (some (.int .i64 r1.1, some (.agg [.ptr 6 0, .b z3.fq]))), .blk [.n v2.1, .mp 3, .mp 4, .n v2.2.1, .b v2.2.2.1], .mapo (encM (kI .i64) (kI .i64) v2.2.2.2.1), .mapo (encM (kI .i64) (kI .i64) v2.2.2.2.2.1), .room (γ1), .blk r3.2.2.enc, .blk [.ptr 6 0, .b v2.2.2.2.2.2.2], .blk r2.1.enc]⟩) (QRr (gt.fin x0)) hr (fun f hr => ?_) (fun v2 γ2 hr => ?_) (fun _ h => QRr_ret h)
     ·refine Try.tg hΓ [50] [6] (by kernel_rfl) rfl (by simp; exact rr) ?_
      refine AWp.cond (b := z3.fq) (by simp) (fun h16 => ?_) (fun h16 => ?_)
      ·have hr := Li h16 hr
       obtain ⟨r4, h17, hr⟩ := Lc hr
       refine Try.td hΓ [] [50] [] [(false, []), (false, []), (false, []), (false, []), (false, []), (false, []), (true, [])] (by kernel_rfl) rfl (by simp [h16, h17]; exact rr) ?_
       refine AWp.lst (AWp.reg Try.tyOk hΓ [] [] (by kernel_rfl) rfl (by simp; exact rr)) ?_
       obtain rfl := La hr
       exact Ls () 9 (by first | (simp; done) | simp [h16])
      ·have hr := Lj h16 hr
       refine AWp.lst (AWp.reg Try.tyOk hΓ [] [50] (by kernel_rfl) rfl (by simp [h16]; exact rr)) ?_
       obtain rfl := La hr
       exact Ls () 9 (by first | (simp; done) | simp [h16])
     ·obtain ⟨h18, hr⟩ := Lb hr
      refine AWp.lstE (AWp.reg Try.tyOk hΓ [3] [7, 4] (by kernel_rfl) rfl (by simp [h18]; exact rr)) ?_
      refine Eps.see (See.closeI (M' := [.blk (r1.2.2.fe.enc ++ [.mp 1, .ptr 2 0, .lit (.int .i64 (subI .i64 r1.2.2.fc r2.1.fm)), .lit (.int .i64 v2.2.2.2.2.2.1)]), .own (Td.own .i64 (setM eqI r1.1 (Td.mk r3.2.2 z3.fq) r1.2.2.fg) none) none, .blk [.lit (.int .i64 v2.1), .mp 3, .mp 4, .lit (.int .i64 v2.2.1), .lit (.bool v2.2.2.1)], .mapo (encM (kI .i64) (kI .i64) v2.2.2.2.1), .mapo (encM (kI .i64) (kI .i64) v2.2.2.2.2.1), .room (γ1 + 1), .dead, .blk [.ptr 6 0, .lit (.bool v2.2.2.2.2.2.2)], .blk r2.1.enc]) 1 r1.1 (Td.mk r3.2.2 z3.fq) r1.2.2.fg [6] (by rfl) (by decide) (by simp) (by simp [into]) (by simp) (by rfl)) ?_
      refine Eps.done ?_
      obtain rfl := La hr
      exact Lm (γ1 + 1) 6 (by first | (simp; done) | simp [h10, h11, h13, h14, h15, h18])
 ·cases hr

@[simp] noncomputable def gt.S : Sp
 | [.ptr i0 0], M => match M[i0]? with
  | some (.blk c0) => (match nthE c0 5 with
  | some (.mp i1) => (match M[i1]? with
  | some (.own c1 none) => (match nthE c0 6 with
  | some (.ptr i2 0) => (match M[i2]? with
  | some (.blk c2) => (match nthE c2 1 with
  | some (.mp i3) => (match M[i3]? with
  | some (.mapo c3) => (match nthE c2 2 with
  | some (.mp i4) => (match M[i4]? with
  | some (.mapo c4) => (fun (y0 : Tg) => (fun (r : List Tc × Tg) => some { av := .sl ((r.1).map Tc.enc) .no, M := some (((((M.set i0 (.blk [.lit (.int .i64 (r.2.fe.fh)), .lit (.int .i64 (r.2.fe.fo)), .lit (.int .i64 (r.2.fe.fu)), .lit (.int .i64 (r.2.fe.fb)), .lit (.int .i64 (r.2.fe.fp)), .mp i1, .ptr i2 0, .lit (.int .i64 (r.2.fc)), .lit (.int .i64 (r.2.fd))])).set i1 (.own (Td.own .i64 (r.2.fg) none) none)).set i2 (.blk [.lit (.int .i64 (r.2.fa.fb)), .mp i3, .mp i4, .lit (.int .i64 (r.2.fa.fAt)), .lit (.bool (r.2.fa.ff))])).set i3 (.mapo (encM (kI .i64) (kI .i64) (r.2.fa.fj)))).set i4 (.mapo (encM (kI .i64) (kI .i64) (r.2.fa.fk)))), obl := c0 = Tg.enc y0 i1 i2 ∧ c1 = Td.own .i64 (y0.fg) none ∧ c2 = Tq.enc (y0.fa) i3 i4 ∧ c3 = encM (kI .i64) (kI .i64) (y0.fa.fj) ∧ c4 = encM (kI .i64) (kI .i64) (y0.fa.fk) ∧ (gt y0).isSome = true ∧ i0 ≠ i1 ∧ i0 ≠ i2 ∧ i0 ≠ i3 ∧ i0 ≠ i4 ∧ i1 ≠ i2 ∧ i1 ≠ i3 ∧ i1 ≠ i4 ∧ i2 ≠ i3 ∧ i2 ≠ i4 ∧ i3 ≠ i4 }) ((gt y0).getD dflt)) (Tg.dec c0 (decM dkI Td.dfl c1.data) (Tq.dec c2 (decM dkI dkI c3) (decM dkI dkI c4)))
  | _ => none)
  | _ => none)
  | _ => none)
  | _ => none)
  | _ => none)
  | _ => none)
  | _ => none)
  | _ => none)
  | _ => none
 | _, _ => none

theorem gt.ok : SpecOk Try.prog 24 gt.S := by
 intro l M out h
 unfold gt.S at h
 split at h
 ·rename_i i0
  split at h
  case h_2 => cases h
  rename_i c0 hM0
  split at h
  case h_2 => cases h
  rename_i i1 he1
  split at h
  case h_2 => cases h
  rename_i c1 hM1
  split at h
  case h_2 => cases h
  rename_i i2 he2
  split at h
  case h_2 => cases h
  rename_i c2 hM2
  split at h
  case h_2 => cases h
  rename_i i3 he3
  split at h
  case h_2 => cases h
  rename_i c3 hM3
  split at h
  case h_2 => cases h
  rename_i i4 he4
  split at h
  case h_2 => cases h
  rename_i c4 hM4
  try dsimp only at h
  cases h
  refine callOk_of fun ho => ?_
  obtain ⟨oc0, oc1, oc2, oc3, oc4, hs, hne0, hne1, hne2, hne3, hne4, hne5, hne6, hne7, hne8, hne9⟩ := ho
  generalize (Tg.dec c0 (decM dkI Td.dfl c1.data) (Tq.dec c2 (decM dkI dkI c3) (decM dkI dkI c4))) = y0 at *
  subst oc0
  subst oc1
  subst oc2
  subst oc3
  subst oc4
  obtain ⟨r, hr⟩ := Option.isSome_iff_exists.1 hs
  simp only [hr, Option.getD_some]
  have q := Lk (M := M) [i0, i1, i2, i3, i4] (gt.can y0 r hr) (by simp [hne0, hne1, hne2, hne3, hne4, hne5, hne6, hne7, hne8, hne9]) rfl (by intro k i hk; (cases k with | zero => (simp at hk; subst hk; simp [hM0, into]) | succ k => ((cases k with | zero => (simp at hk; subst hk; simp [hM1]) | succ k => ((cases k with | zero => (simp at hk; subst hk; simp [hM2, into]) | succ k => ((cases k with | zero => (simp at hk; subst hk; simp [hM3]) | succ k => ((cases k with | zero => (simp at hk; subst hk; simp [hM4]) | succ k => (simp at hk)))))))))))
  exact callOk_conv q trivial (by simp [into]) (by simp [frameOut, gt.out, into]) (by simp [frameOut, gt.out, into])
 ·cases h

@[simp] def gq.out (_x0 : Tg) (_x1 : Int) (r : List Tc × Tg) : Out := { av := .sl (r.1.map Tc.enc) .no, M := some [.blk [.lit (.int .i64 r.2.fe.fh), .lit (.int .i64 r.2.fe.fo), .lit (.int .i64 r.2.fe.fu), .lit (.int .i64 r.2.fe.fb), .lit (.int .i64 r.2.fe.fp), .mp 1, .ptr 2 0, .lit (.int .i64 r.2.fc), .lit (.int .i64 r.2.fd)], .own (Td.own .i64 r.2.fg none) none, .blk [.lit (.int .i64 r.2.fa.fb), .mp 3, .mp 4, .lit (.int .i64 r.2.fa.fAt), .lit (.bool r.2.fa.ff)], .mapo (encM (kI .i64) (kI .i64) r.2.fa.fj), .mapo (encM (kI .i64) (kI .i64) r.2.fa.fk)] }
def gq.fin (x0 : Tg) (x1 : Int) (r : List Tc × Tg) (σ : St) : Prop := finK (gq.out x0 x1 r) [.blk (x0.fe.enc ++ [.mp 1, .ptr 2 0, .lit (.int .i64 x0.fc), .lit (.int .i64 x0.fd)]), .own (Td.own .i64 x0.fg none) none, .blk [.lit (.int .i64 x0.fa.fb), .mp 3, .mp 4, .lit (.int .i64 x0.fa.fAt), .lit (.bool x0.fa.ff)], .mapo (encM (kI .i64) (kI .i64) x0.fa.fj), .mapo (encM (kI .i64) (kI .i64) x0.fa.fk)] σ.M (resA Try.ty σ.A σ.M Try.f19.results.toList)
theorem gq.can (x0 : Tg) (x1 : Int) (r : List Tc × Tg) (hr : gq x0 x1 = some r) : CallOk Try.prog 19 [.ptr 0 0, .lit (.int .i64 x1)] [.blk (x0.fe.enc ++ [.mp 1, .ptr 2 0, .lit (.int .i64 x0.fc), .lit (.int .i64 x0.fd)]), .own (Td.own .i64 x0.fg none) none, .blk [.lit (.int .i64 x0.fa.fb), .mp 3, .mp 4, .lit (.int .i64 x0.fa.fAt), .lit (.bool x0.fa.ff)], .mapo (encM (kI .i64) (kI .i64) x0.fa.fj), .mapo (encM (kI .i64) (kI .i64) x0.fa.fk)] (gq.out x0 x1 r) := by
 unfold gq at hr
 have hΓ := (gamL_cons gk.ok (gamL_cons gaa.ok (gamL_cons libKeys.gaD.ok (gamL_cons libSorted.gaE.ok (gamL_nil)))) : GamOk Try.prog _)
 refine Lg Try.tyOk Try.func19 rfl (by kernel_rfl) rfl rfl (by simp) ?_
 intro _ _ _
 refine Try.tg hΓ [] [] (by kernel_rfl) rfl (by simp; exact rr) ?_
 refine Try.tg hΓ [5] [] (by kernel_rfl) rfl (by simp; exact rr) ?_
 refine AWp.seq ?_
 obtain ⟨h8, hr⟩ := Lb hr
 refine Try.tg hΓ [13, 14, 15] [] (by kernel_rfl) rfl (by simp [h8]; exact rr) ?_
 refine AWp.equip 5 5 (els := []) (by simp) (by simp) ?_
 refine AWp.loopE (fun (s1 : Int × List Tc × (List (Int × Td))) (γ1 : Nat) => ⟨[⟨13, none, .sl ((sortL (keysM x0.fg)).map (eNum .i64)) .no⟩, ⟨14, none, .n (lenL (sortL (keysM x0.fg)))⟩, ⟨15, none, .n s1.1⟩, ⟨5, none, .sl (s1.2.1.map Tc.enc) (.own 5 (γ1) 5)⟩, ⟨0, none, .ptr 0 0⟩, ⟨1, none, .n x1⟩], [.blk (x0.fe.enc ++ [.mp 1, .ptr 2 0, .n x0.fc, .n x0.fd]), .own (Td.own .i64 s1.2.2 none) none, .blk [.n x0.fa.fb, .mp 3, .mp 4, .n x0.fa.fAt, .b x0.fa.ff], .mapo (encM (kI .i64) (kI .i64) x0.fa.fj), .mapo (encM (kI .i64) (kI .i64) x0.fa.fk), .room (γ1)]⟩) (fun (v1 : List Tc × (List (Int × Td))) (γ1a : Nat) => ⟨[⟨5, none, .sl (v1.1.map Tc.enc) (.own 5 (γ1a) 5)⟩], [.blk (x0.fe.enc ++ [.mp 1, .ptr 2 0, .n x0.fc, .n x0.fd]), .own (Td.own .i64 v1.2 none) none, .blk [.n x0.fa.fb, .mp 3, .mp 4, .n x0.fa.fAt, .b x0.fa.ff], .mapo (encM (kI .i64) (kI .i64) x0.fa.fj), .mapo (encM (kI .i64) (kI .i64) x0.fa.fk), .room (γ1a)]⟩) (gq.fin x0 x1) hr 0 6 (by simp) (fun s1 f γ1 hr => ?_) (fun v1 γ1a σ1 m1 hr hc => ?_) (fun _ h => h)
 ·unfold gq.loop1 at hr
  refine Try.tg hΓ [16] [] (by kernel_rfl) rfl (by simp; exact rr) ?_
  refine AWp.seq ?_
  refine AWp.cond (b := (ltI s1.1 (lenL (sortL (keysM x0.fg))))) (by simp) (fun h9 => ?_) (fun h9 => ?_)
  ·have hr := Li h9 hr
   refine AWp.skip ?_
   refine AWp.seq ?_
   refine AWp.block ?_
   obtain ⟨h10, hr⟩ := Lb hr
   refine Try.tg hΓ [7] [16] (by kernel_rfl) rfl (by simp [h9, h10]; exact rr) ?_
   cases h11 : findM eqI (nthI (sortL (keysM x0.fg)) s1.1) s1.2.2 with
   | none =>
    have hr := optC_n h11 hr
    refine AWp.see (See.missI (M' := [.blk (x0.fe.enc ++ [.mp 1, .ptr 2 0, .n x0.fc, .n x0.fd]), .own (Td.own .i64 s1.2.2 none) (some (.int .i64 (nthI (sortL (keysM x0.fg)) s1.1), none)), .blk [.n x0.fa.fb, .mp 3, .mp 4, .n x0.fa.fAt, .b x0.fa.ff], .mapo (encM (kI .i64) (kI .i64) x0.fa.fj), .mapo (encM (kI .i64) (kI .i64) x0.fa.fk), .room (γ1)]) 1 (nthI (sortL (keysM x0.fg)) s1.1) s1.2.2 h11 (by rfl) (by rfl)) ?_
    cases hr
   | some z3 =>
    have hr := optC_s h11 hr
    refine AWp.see (See.openI (M' := [.blk (x0.fe.enc ++ [.mp 1, .ptr 2 0, .n x0.fc, .n x0.fd]), .own (Td.own .i64 s1.2.2 (some (.int .i64 (nthI (sortL (keysM x0.fg)) s1.1)))) (some (.int .i64 (nthI (sortL (keysM x0.fg)) s1.1), some (.agg [.ptr 6 0, .b z3.fq]))), .blk [.n x0.fa.fb, .mp 3, .mp 4, .n x0.fa.fAt, .b x0.fa.ff], .mapo (encM (kI .i64) (kI .i64) x0.fa.fj), .mapo (encM (kI .i64) (kI .i64) x0.fa.fk), .room (γ1), .blk z3.fA.enc]) 1 (nthI (sortL (keysM x0.fg)) s1.1) z3 s1.2.2 h11 (by rfl) (by simp)) ?_
    obtain ⟨r1, h12, hr⟩ := Lc hr
    obtain ⟨r2, h13, hr⟩ := Lc hr
    obtain ⟨h14, hr⟩ := Lb hr
    refine AWp.lst (AWp.regD Try.mixed Try.tyOk hΓ [5] [7] [(0, 16), (1, 16)] [(false, []), (false, []), (false, []), (false, []), (false, []), (false, []), (false, []), (false, []), (false, []), (false, []), (false, []), (false, []), (false, []), (false, []), (false, []), (true, []), (false, []), (true, []), (false, [])] (by kernel_rfl) rfl (by simp [h12, h13, h14]; exact rr)) ?_
    refine AWp.lstE (AWp.reg Try.tyOk hΓ [15] [] (by kernel_rfl) rfl (by simp; exact rr)) ?_
    refine Eps.see (See.closeI (M' := [.blk (x0.fe.enc ++ [.mp 1, .ptr 2 0, .lit (.int .i64 x0.fc), .lit (.int .i64 x0.fd)]), .own (Td.own .i64 (setM eqI (nthI (sortL (keysM x0.fg)) s1.1) (Td.mk r1.2 z3.fq) s1.2.2) none) none, .blk [.lit (.int .i64 x0.fa.fb), .mp 3, .mp 4, .lit (.int .i64 x0.fa.fAt), .lit (.bool x0.fa.ff)], .mapo (encM (kI .i64) (kI .i64) x0.fa.fj), .mapo (encM (kI .i64) (kI .i64) x0.fa.fk), .room (γ1 + 1), .dead]) 1 (nthI (sortL (keysM x0.fg)) s1.1) (Td.mk r1.2 z3.fq) s1.2.2 [6] (by rfl) (by decide) (by simp) (by simp [into]) (by simp) (by rfl)) ?_
    refine Eps.done ?_
    obtain rfl := La hr
    exact Lm (γ1 + 1) 6 (by first | (simp; done) | simp [h8, h9, h10, h12, h13, h14])
  ·have hr := Lj h9 hr
   refine AWp.exit ?_
   obtain rfl := La hr
   exact Lp (γ1) 6 (by first | (simp; done) | simp [h8, h9])
 ·refine AWp.conv hc ?_
  refine Try.tg hΓ [4] [5] (by kernel_rfl) rfl (by simp; exact rr) ?_
  refine AWp.ret ?_
  obtain rfl := La hr
  refine Lf ?_
  simp

@[simp] noncomputable def gq.S : Sp
 | [.ptr i0 0, .lit (.int .i64 x1)], M => match M[i0]? with
  | some (.blk c0) => (match nthE c0 5 with
  | some (.mp i1) => (match M[i1]? with
  | some (.own c1 none) => (match nthE c0 6 with
  | some (.ptr i2 0) => (match M[i2]? with
  | some (.blk c2) => (match nthE c2 1 with
  | some (.mp i3) => (match M[i3]? with
  | some (.mapo c3) => (match nthE c2 2 with
  | some (.mp i4) => (match M[i4]? with
  | some (.mapo c4) => (fun (y0 : Tg) => (fun (r : List Tc × Tg) => some { av := .sl ((r.1).map Tc.enc) .no, M := some (((((M.set i0 (.blk [.lit (.int .i64 (r.2.fe.fh)), .lit (.int .i64 (r.2.fe.fo)), .lit (.int .i64 (r.2.fe.fu)), .lit (.int .i64 (r.2.fe.fb)), .lit (.int .i64 (r.2.fe.fp)), .mp i1, .ptr i2 0, .lit (.int .i64 (r.2.fc)), .lit (.int .i64 (r.2.fd))])).set i1 (.own (Td.own .i64 (r.2.fg) none) none)).set i2 (.blk [.lit (.int .i64 (r.2.fa.fb)), .mp i3, .mp i4, .lit (.int .i64 (r.2.fa.fAt)), .lit (.bool (r.2.fa.ff))])).set i3 (.mapo (encM (kI .i64) (kI .i64) (r.2.fa.fj)))).set i4 (.mapo (encM (kI .i64) (kI .i64) (r.2.fa.fk)))), obl := c0 = Tg.enc y0 i1 i2 ∧ c1 = Td.own .i64 (y0.fg) none ∧ c2 = Tq.enc (y0.fa) i3 i4 ∧ c3 = encM (kI .i64) (kI .i64) (y0.fa.fj) ∧ c4 = encM (kI .i64) (kI .i64) (y0.fa.fk) ∧ (gq y0 x1).isSome = true ∧ i0 ≠ i1 ∧ i0 ≠ i2 ∧ i0 ≠ i3 ∧ i0 ≠ i4 ∧ i1 ≠ i2 ∧ i1 ≠ i3 ∧ i1 ≠ i4 ∧ i2 ≠ i3 ∧ i2 ≠ i4 ∧ i3 ≠ i4 }) ((gq y0 x1).getD dflt)) (Tg.dec c0 (decM dkI Td.dfl c1.data) (Tq.dec c2 (decM dkI dkI c3) (decM dkI dkI c4)))
  | _ => none)
  | _ => none)
  | _ => none)
  | _ => none)
  | _ => none)
  | _ => none)
  | _ => none)
  | _ => none)
  | _ => none
 | _, _ => none

theorem gq.ok : SpecOk Try.prog 19 gq.S := by
 intro l M out h
 unfold gq.S at h
 split at h
 ·rename_i i0 x1
  split at h
  case h_2 => cases h
  rename_i c0 hM0
  split at h
  case h_2 => cases h
  rename_i i1 he1
  split at h
  case h_2 => cases h
  rename_i c1 hM1
  split at h
  case h_2 => cases h
  rename_i i2 he2
  split at h
  case h_2 => cases h
  rename_i c2 hM2
  split at h
  case h_2 => cases h
  rename_i i3 he3
  split at h
  case h_2 => cases h
  rename_i c3 hM3
  split at h
  case h_2 => cases h
  rename_i i4 he4
  split at h
  case h_2 => cases h
  rename_i c4 hM4
  try dsimp only at h
  cases h
  refine callOk_of fun ho => ?_
  obtain ⟨oc0, oc1, oc2, oc3, oc4, hs, hne0, hne1, hne2, hne3, hne4, hne5, hne6, hne7, hne8, hne9⟩ := ho
  generalize (Tg.dec c0 (decM dkI Td.dfl c1.data) (Tq.dec c2 (decM dkI dkI c3) (decM dkI dkI c4))) = y0 at *
  subst oc0
  subst oc1
  subst oc2
  subst oc3
  subst oc4
  obtain ⟨r, hr⟩ := Option.isSome_iff_exists.1 hs
  simp only [hr, Option.getD_some]
  have q := Lk (M := M) [i0, i1, i2, i3, i4] (gq.can y0 x1 r hr) (by simp [hne0, hne1, hne2, hne3, hne4, hne5, hne6, hne7, hne8, hne9]) rfl (by intro k i hk; (cases k with | zero => (simp at hk; subst hk; simp [hM0, into]) | succ k => ((cases k with | zero => (simp at hk; subst hk; simp [hM1]) | succ k => ((cases k with | zero => (simp at hk; subst hk; simp [hM2, into]) | succ k => ((cases k with | zero => (simp at hk; subst hk; simp [hM3]) | succ k => ((cases k with | zero => (simp at hk; subst hk; simp [hM4]) | succ k => (simp at hk)))))))))))
  exact callOk_conv q trivial (by simp [into]) (by simp [frameOut, gq.out, into]) (by simp [frameOut, gq.out, into])
 ·cases h
end Go.Proofs
