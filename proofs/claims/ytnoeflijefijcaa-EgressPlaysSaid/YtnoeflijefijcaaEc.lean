/- That these functions compute what their plain functions do. No condition. -/
import Derived.Test.YtnoeflijefijcaaM02
import Derived.Test.YtnoeflijefijcaaTy
import Derived.Test.YtnoeflijefijcaaQu
set_option maxRecDepth 100000
set_option maxHeartbeats 4000000
namespace Go.Proofs
open Go.Ab
@[simp] def gC.out (_x0 : Tg) (_x1 : Bool) (r : List Int) : Out := { av := .sl (r.map (eNum .i64)) .no, M := none }
def gC.fin (x0 : Tg) (x1 : Bool) (r : List Int) (σ : St) : Prop := finK (gC.out x0 x1 r) [.blk (x0.fe.enc ++ [.mp 1, .ptr 2 0, .lit (.int .i64 x0.fc), .lit (.int .i64 x0.fd)]), .own (Td.own .i64 x0.fg none) none, .blk [.lit (.int .i64 x0.fa.fb), .mp 3, .mp 4, .lit (.int .i64 x0.fa.fAt), .lit (.bool x0.fa.ff)], .mapo (encM (kI .i64) (kI .i64) x0.fa.fj), .mapo (encM (kI .i64) (kI .i64) x0.fa.fk)] σ.M (resA Try.ty σ.A σ.M Try.f61.results.toList)
theorem gC.can (x0 : Tg) (x1 : Bool) (r : List Int) (hr : gC x0 x1 = some r) : CallOk Try.prog 61 [.ptr 0 0, .lit (.bool x1)] [.blk (x0.fe.enc ++ [.mp 1, .ptr 2 0, .lit (.int .i64 x0.fc), .lit (.int .i64 x0.fd)]), .own (Td.own .i64 x0.fg none) none, .blk [.lit (.int .i64 x0.fa.fb), .mp 3, .mp 4, .lit (.int .i64 x0.fa.fAt), .lit (.bool x0.fa.ff)], .mapo (encM (kI .i64) (kI .i64) x0.fa.fj), .mapo (encM (kI .i64) (kI .i64) x0.fa.fk)] (gC.out x0 x1 r) := by
 unfold gC at hr
 have hΓ := (gamL_cons gab.ok (gamL_cons libKeys.gaD.ok (gamL_cons libSorted.gaE.ok (gamL_nil))) : GamOk Try.prog _)
 refine Lg Try.tyOk Try.func61 rfl (by kernel_rfl) rfl rfl (by simp) ?_
 intro _ _ _
 refine Try.tg hΓ [] [] (by kernel_rfl) rfl (by simp; exact rr) ?_
 refine Try.tg hΓ [5] [] (by kernel_rfl) rfl (by simp; exact rr) ?_
 refine AWp.seq ?_
 obtain ⟨h9, hr⟩ := Lb hr
 refine Try.tg hΓ [14, 15, 16] [] (by kernel_rfl) rfl (by simp [h9]; exact rr) ?_
 refine AWp.equip 5 1 (els := []) (by simp) (by simp) ?_
 refine AWp.loopE (fun (s1 : Int × List Int) (γ1 : Nat) => ⟨[⟨14, none, .sl ((sortL (keysM x0.fg)).map (eNum .i64)) .no⟩, ⟨15, none, .n (lenL (sortL (keysM x0.fg)))⟩, ⟨16, none, .n s1.1⟩, ⟨5, none, .sl (s1.2.map (eNum .i64)) (.own 5 (γ1) 1)⟩, ⟨0, none, .ptr 0 0⟩, ⟨1, none, .b x1⟩], [.blk (x0.fe.enc ++ [.mp 1, .ptr 2 0, .n x0.fc, .n x0.fd]), .own (Td.own .i64 x0.fg none) none, .blk [.n x0.fa.fb, .mp 3, .mp 4, .n x0.fa.fAt, .b x0.fa.ff], .mapo (encM (kI .i64) (kI .i64) x0.fa.fj), .mapo (encM (kI .i64) (kI .i64) x0.fa.fk), .room (γ1)]⟩) (fun (v1 : List Int) (γ1a : Nat) => ⟨[⟨5, none, .sl (v1.map (eNum .i64)) (.own 5 (γ1a) 1)⟩], [.blk (x0.fe.enc ++ [.mp 1, .ptr 2 0, .n x0.fc, .n x0.fd]), .own (Td.own .i64 x0.fg none) none, .blk [.n x0.fa.fb, .mp 3, .mp 4, .n x0.fa.fAt, .b x0.fa.ff], .mapo (encM (kI .i64) (kI .i64) x0.fa.fj), .mapo (encM (kI .i64) (kI .i64) x0.fa.fk), .room (γ1a)]⟩) (gC.fin x0 x1) hr 0 6 (by simp) (fun s1 f γ1 hr => ?_) (fun v1 γ1a σ1 m1 hr hc => ?_) (fun _ h => h)
 ·unfold gC.loop1 at hr
  refine Try.tg hΓ [17] [] (by kernel_rfl) rfl (by simp; exact rr) ?_
  refine AWp.seq ?_
  refine AWp.cond (b := (ltI s1.1 (lenL (sortL (keysM x0.fg))))) (by simp) (fun h10 => ?_) (fun h10 => ?_)
  ·have hr := Li h10 hr
   refine AWp.skip ?_
   refine AWp.seq ?_
   refine AWp.block ?_
   obtain ⟨h11, hr⟩ := Lb hr
   refine Try.tg hΓ [7] [17] (by kernel_rfl) rfl (by simp [h10, h11]; exact rr) ?_
   cases h12 : findM eqI (nthI (sortL (keysM x0.fg)) s1.1) x0.fg with
   | none =>
    have hr := optC_n h12 hr
    refine AWp.see (See.missI (M' := [.blk (x0.fe.enc ++ [.mp 1, .ptr 2 0, .n x0.fc, .n x0.fd]), .own (Td.own .i64 x0.fg none) (some (.int .i64 (nthI (sortL (keysM x0.fg)) s1.1), none)), .blk [.n x0.fa.fb, .mp 3, .mp 4, .n x0.fa.fAt, .b x0.fa.ff], .mapo (encM (kI .i64) (kI .i64) x0.fa.fj), .mapo (encM (kI .i64) (kI .i64) x0.fa.fk), .room (γ1)]) 1 (nthI (sortL (keysM x0.fg)) s1.1) x0.fg h12 (by rfl) (by rfl)) ?_
    refine Try.tg hΓ [8] [] (by kernel_rfl) rfl (by simp; exact rr) ?_
    cases h13 : (eqB false x1) with
    | true =>
     have hr := Li h13 hr
     cases hr
    | false =>
     have hr := Lj h13 hr
     refine AWp.thn (AWp.regG Try.tyOk hΓ [(30, false)] (keep := [35]) (dead := [8]) (by kernel_rfl) rfl (by simp [h13]; exact rr)) ?_
     refine AWp.cond (b := false) (by simp) (fun hb => ?_) (fun hb => ?_)
     ·cases hb
     ·refine AWp.skip ?_
      refine AWp.lstE (AWp.reg Try.tyOk hΓ [16] [35, 7] (by kernel_rfl) rfl (by simp; exact rr)) ?_
      refine Eps.see (See.shutM (M' := [.blk (x0.fe.enc ++ [.mp 1, .ptr 2 0, .lit (.int .i64 x0.fc), .lit (.int .i64 x0.fd)]), .own (Td.own .i64 x0.fg none) none, .blk [.lit (.int .i64 x0.fa.fb), .mp 3, .mp 4, .lit (.int .i64 x0.fa.fAt), .lit (.bool x0.fa.ff)], .mapo (encM (kI .i64) (kI .i64) x0.fa.fj), .mapo (encM (kI .i64) (kI .i64) x0.fa.fk), .room (γ1), .blk [.lit (.pointer none), .lit (.bool false)]]) 1 (by rfl) (by rfl)) ?_
      refine Eps.done ?_
      obtain rfl := La hr
      exact Lm (γ1) 6 (by first | (simp; done) | simp [h9, h10, h11, h13])
   | some z3 =>
    have hr := optC_s h12 hr
    refine AWp.see (See.openI (M' := [.blk (x0.fe.enc ++ [.mp 1, .ptr 2 0, .n x0.fc, .n x0.fd]), .own (Td.own .i64 x0.fg (some (.int .i64 (nthI (sortL (keysM x0.fg)) s1.1)))) (some (.int .i64 (nthI (sortL (keysM x0.fg)) s1.1), some (.agg [.ptr 6 0, .b z3.fq]))), .blk [.n x0.fa.fb, .mp 3, .mp 4, .n x0.fa.fAt, .b x0.fa.ff], .mapo (encM (kI .i64) (kI .i64) x0.fa.fj), .mapo (encM (kI .i64) (kI .i64) x0.fa.fk), .room (γ1), .blk z3.fA.enc]) 1 (nthI (sortL (keysM x0.fg)) s1.1) z3 x0.fg h12 (by rfl) (by simp)) ?_
    refine Try.tg hΓ [8] [] (by kernel_rfl) rfl (by simp; exact rr) ?_
    obtain ⟨h14, hr⟩ := Lb hr
    refine Try.tg hΓ [35] [8] (by kernel_rfl) rfl (by simp [h14]; exact rr) ?_
    refine AWp.cond (b := (pickB (eqB z3.fq x1) (ltI 0 ((gab z3.fA).getD dflt)) false)) (by simp) (fun h15 => ?_) (fun h15 => ?_)
    ·have hr := Li h15 hr
     obtain ⟨h16, hr⟩ := Lb hr
     refine AWp.lst (AWp.reg Try.tyOk hΓ [5] [35, 7] (by kernel_rfl) rfl (by simp [h15, h16]; exact rr)) ?_
     refine AWp.lstE (AWp.reg Try.tyOk hΓ [16] [] (by kernel_rfl) rfl (by simp; exact rr)) ?_
     refine Eps.see (See.closeS (M' := [.blk (x0.fe.enc ++ [.mp 1, .ptr 2 0, .lit (.int .i64 x0.fc), .lit (.int .i64 x0.fd)]), .own (Td.own .i64 x0.fg none) none, .blk [.lit (.int .i64 x0.fa.fb), .mp 3, .mp 4, .lit (.int .i64 x0.fa.fAt), .lit (.bool x0.fa.ff)], .mapo (encM (kI .i64) (kI .i64) x0.fa.fj), .mapo (encM (kI .i64) (kI .i64) x0.fa.fk), .room (γ1 + 1), .dead, .blk [.ptr 6 0, .lit (.bool z3.fq)]]) 1 (nthI (sortL (keysM x0.fg)) s1.1) z3 x0.fg [6] h12 (by rfl) (by decide) (by simp) (by simp [into]) (by simp) (by rfl)) ?_
     refine Eps.done ?_
     obtain rfl := La hr
     exact Lm (γ1 + 1) 6 (by first | (simp; done) | simp [h9, h10, h11, h14, h15, h16])
    ·have hr := Lj h15 hr
     refine AWp.skip ?_
     refine AWp.lstE (AWp.reg Try.tyOk hΓ [16] [35, 7] (by kernel_rfl) rfl (by simp [h15]; exact rr)) ?_
     refine Eps.see (See.closeS (M' := [.blk (x0.fe.enc ++ [.mp 1, .ptr 2 0, .lit (.int .i64 x0.fc), .lit (.int .i64 x0.fd)]), .own (Td.own .i64 x0.fg none) none, .blk [.lit (.int .i64 x0.fa.fb), .mp 3, .mp 4, .lit (.int .i64 x0.fa.fAt), .lit (.bool x0.fa.ff)], .mapo (encM (kI .i64) (kI .i64) x0.fa.fj), .mapo (encM (kI .i64) (kI .i64) x0.fa.fk), .room (γ1), .dead, .blk [.ptr 6 0, .lit (.bool z3.fq)]]) 1 (nthI (sortL (keysM x0.fg)) s1.1) z3 x0.fg [6] h12 (by rfl) (by decide) (by simp) (by simp [into]) (by simp) (by rfl)) ?_
     refine Eps.done ?_
     obtain rfl := La hr
     exact Lm (γ1) 6 (by first | (simp; done) | simp [h9, h10, h11, h14, h15])
  ·have hr := Lj h10 hr
   refine AWp.exit ?_
   obtain rfl := La hr
   exact Lp (γ1) 6 (by first | (simp; done) | simp [h9, h10])
 ·refine AWp.conv hc ?_
  refine Try.tg hΓ [4] [5] (by kernel_rfl) rfl (by simp; exact rr) ?_
  refine AWp.ret ?_
  obtain rfl := La hr
  refine Lf ?_
  simp

@[simp] noncomputable def gC.S : Sp
 | [.ptr i0 0, .lit (.bool x1)], M => match M[i0]? with
  | some (.blk c0) => (match nthE c0 5 with
  | some (.mp i1) => (match M[i1]? with
  | some (.own c1 none) => (match nthE c0 6 with
  | some (.ptr i2 0) => (match M[i2]? with
  | some (.blk c2) => (match nthE c2 1 with
  | some (.mp i3) => (match M[i3]? with
  | some (.mapo c3) => (match nthE c2 2 with
  | some (.mp i4) => (match M[i4]? with
  | some (.mapo c4) => (fun (y0 : Tg) => some { av := .sl (((gC y0 x1).getD dflt).map (eNum .i64)) .no, M := none, obl := c0 = Tg.enc y0 i1 i2 ∧ c1 = Td.own .i64 (y0.fg) none ∧ c2 = Tq.enc (y0.fa) i3 i4 ∧ c3 = encM (kI .i64) (kI .i64) (y0.fa.fj) ∧ c4 = encM (kI .i64) (kI .i64) (y0.fa.fk) ∧ (gC y0 x1).isSome = true ∧ i0 ≠ i1 ∧ i0 ≠ i2 ∧ i0 ≠ i3 ∧ i0 ≠ i4 ∧ i1 ≠ i2 ∧ i1 ≠ i3 ∧ i1 ≠ i4 ∧ i2 ≠ i3 ∧ i2 ≠ i4 ∧ i3 ≠ i4 }) (Tg.dec c0 (decM dkI Td.dfl c1.data) (Tq.dec c2 (decM dkI dkI c3) (decM dkI dkI c4)))
  | _ => none)
  | _ => none)
  | _ => none)
  | _ => none)
  | _ => none)
  | _ => none)
  | _ => none)
  | _ => none)
  | _ => none
 | _, _ => none

theorem gC.ok : SpecOk Try.prog 61 gC.S := by
 intro l M out h
 unfold gC.S at h
 split at h
 ·rename_i i0 x1
  split at h
  case h_2 => cases h
  rename_i c0 hM0
  split at h
  case h_2 => cases h
  rename_i i1 he1
  split at h
  case h_2 => cases h
  rename_i c1 hM1
  split at h
  case h_2 => cases h
  rename_i i2 he2
  split at h
  case h_2 => cases h
  rename_i c2 hM2
  split at h
  case h_2 => cases h
  rename_i i3 he3
  split at h
  case h_2 => cases h
  rename_i c3 hM3
  split at h
  case h_2 => cases h
  rename_i i4 he4
  split at h
  case h_2 => cases h
  rename_i c4 hM4
  try dsimp only at h
  cases h
  refine callOk_of fun ho => ?_
  obtain ⟨oc0, oc1, oc2, oc3, oc4, hs, hne0, hne1, hne2, hne3, hne4, hne5, hne6, hne7, hne8, hne9⟩ := ho
  generalize (Tg.dec c0 (decM dkI Td.dfl c1.data) (Tq.dec c2 (decM dkI dkI c3) (decM dkI dkI c4))) = y0 at *
  subst oc0
  subst oc1
  subst oc2
  subst oc3
  subst oc4
  obtain ⟨r, hr⟩ := Option.isSome_iff_exists.1 hs
  simp only [hr, Option.getD_some]
  have q := Lk (M := M) [i0, i1, i2, i3, i4] (gC.can y0 x1 r hr) (by simp [hne0, hne1, hne2, hne3, hne4, hne5, hne6, hne7, hne8, hne9]) rfl (by intro k i hk; (cases k with | zero => (simp at hk; subst hk; simp [hM0, into]) | succ k => ((cases k with | zero => (simp at hk; subst hk; simp [hM1]) | succ k => ((cases k with | zero => (simp at hk; subst hk; simp [hM2, into]) | succ k => ((cases k with | zero => (simp at hk; subst hk; simp [hM3]) | succ k => ((cases k with | zero => (simp at hk; subst hk; simp [hM4]) | succ k => (simp at hk)))))))))))
  exact callOk_conv q trivial (by simp [into]) (by simp [frameOut, gC.out, into]) (by simp only [frameOut, gC.out, Option.getD_some, Option.getD_none]; simp [into, hM0, hM1, hM2, hM3, hM4, set_same])
 ·cases h

@[simp] def gad.out (_x0 : Int) (_x1 : Int) (_x2 : Tg) (r : Int) : Out := { av := .lit (.int .i64 r), M := none }
theorem gad.can (x0 : Int) (x1 : Int) (x2 : Tg) (r : Int) (hr : gad x0 x1 x2 = some r) : CallOk Try.prog 76 [.lit (.int .i64 x0), .lit (.int .i64 x1), .ptr 0 0] [.blk [.ptr 1 0], .blk (x2.fe.enc ++ [.mp 2, .ptr 3 0, .lit (.int .i64 x2.fc), .lit (.int .i64 x2.fd)]), .own (Td.own .i64 x2.fg none) none, .blk [.lit (.int .i64 x2.fa.fb), .mp 4, .mp 5, .lit (.int .i64 x2.fa.fAt), .lit (.bool x2.fa.ff)], .mapo (encM (kI .i64) (kI .i64) x2.fa.fj), .mapo (encM (kI .i64) (kI .i64) x2.fa.fk)] (gad.out x0 x1 x2 r) := by
 unfold gad at hr
 have hΓ := (gamL_cons gF.ok (gamL_nil) : GamOk Try.prog _)
 refine Lg Try.tyOk Try.func76 rfl (by kernel_rfl) rfl rfl (by simp) ?_
 intro _ _ _
 refine Try.tg hΓ [] [] (by kernel_rfl) rfl (by simp; exact rr) ?_
 cases h5 : findM eqI x0 x2.fg with
 | none =>
  have hr := optC_n h5 hr
  refine AWp.see (See.missI (M' := [.blk [.ptr 1 0], .blk (x2.fe.enc ++ [.mp 2, .ptr 3 0, .n x2.fc, .n x2.fd]), .own (Td.own .i64 x2.fg none) (some (.int .i64 x0, none)), .blk [.n x2.fa.fb, .mp 4, .mp 5, .n x2.fa.fAt, .b x2.fa.ff], .mapo (encM (kI .i64) (kI .i64) x2.fa.fj), .mapo (encM (kI .i64) (kI .i64) x2.fa.fk)]) 2 x0 x2.fg h5 (by rfl) (by rfl)) ?_
  cases hr
 | some z1 =>
  have hr := optC_s h5 hr
  refine AWp.see (See.openI (M' := [.blk [.ptr 1 0], .blk (x2.fe.enc ++ [.mp 2, .ptr 3 0, .n x2.fc, .n x2.fd]), .own (Td.own .i64 x2.fg (some (.int .i64 x0))) (some (.int .i64 x0, some (.agg [.ptr 6 0, .b z1.fq]))), .blk [.n x2.fa.fb, .mp 4, .mp 5, .n x2.fa.fAt, .b x2.fa.ff], .mapo (encM (kI .i64) (kI .i64) x2.fa.fj), .mapo (encM (kI .i64) (kI .i64) x2.fa.fk), .blk z1.fA.enc]) 2 x0 z1 x2.fg h5 (by rfl) (by simp)) ?_
  obtain ⟨r1, h6, hr⟩ := Lc hr
  refine Try.tg hΓ [6] [0] (by kernel_rfl) rfl (by simp [h6]; exact rr) ?_
  refine AWp.see (See.closeS (M' := [.blk [.ptr 1 0], .blk (x2.fe.enc ++ [.mp 2, .ptr 3 0, .n x2.fc, .n x2.fd]), .own (Td.own .i64 x2.fg none) none, .blk [.n x2.fa.fb, .mp 4, .mp 5, .n x2.fa.fAt, .b x2.fa.ff], .mapo (encM (kI .i64) (kI .i64) x2.fa.fj), .mapo (encM (kI .i64) (kI .i64) x2.fa.fk), .dead, .blk r1.1.enc]) 2 x0 z1 x2.fg [6] h5 (by rfl) (by decide) (by simp) (by simp [into]) (by simp) (by rfl)) ?_
  cases h7 : findM eqI x1 x2.fg with
  | none =>
   have hr := optC_n h7 hr
   refine AWp.see (See.missI (M' := [.blk [.ptr 1 0], .blk (x2.fe.enc ++ [.mp 2, .ptr 3 0, .n x2.fc, .n x2.fd]), .own (Td.own .i64 x2.fg none) (some (.int .i64 x1, none)), .blk [.n x2.fa.fb, .mp 4, .mp 5, .n x2.fa.fAt, .b x2.fa.ff], .mapo (encM (kI .i64) (kI .i64) x2.fa.fj), .mapo (encM (kI .i64) (kI .i64) x2.fa.fk), .dead, .blk r1.1.enc]) 2 x1 x2.fg h7 (by rfl) (by rfl)) ?_
   cases hr
  | some z2 =>
   have hr := optC_s h7 hr
   refine AWp.see (See.openI (M' := [.blk [.ptr 1 0], .blk (x2.fe.enc ++ [.mp 2, .ptr 3 0, .n x2.fc, .n x2.fd]), .own (Td.own .i64 x2.fg (some (.int .i64 x1))) (some (.int .i64 x1, some (.agg [.ptr 8 0, .b z2.fq]))), .blk [.n x2.fa.fb, .mp 4, .mp 5, .n x2.fa.fAt, .b x2.fa.ff], .mapo (encM (kI .i64) (kI .i64) x2.fa.fj), .mapo (encM (kI .i64) (kI .i64) x2.fa.fk), .dead, .blk r1.1.enc, .blk z2.fA.enc]) 2 x1 z2 x2.fg h7 (by rfl) (by simp)) ?_
   obtain ⟨r2, h8, hr⟩ := Lc hr
   refine Try.tg hΓ [8] [1, 2] (by kernel_rfl) rfl (by simp [h8]; exact rr) ?_
   refine Try.tg hΓ [5] [8, 6] (by kernel_rfl) rfl (by simp; exact rr) ?_
   refine AWp.see (See.closeS (M' := [.blk [.ptr 1 0], .blk (x2.fe.enc ++ [.mp 2, .ptr 3 0, .n x2.fc, .n x2.fd]), .own (Td.own .i64 x2.fg none) none, .blk [.n x2.fa.fb, .mp 4, .mp 5, .n x2.fa.fAt, .b x2.fa.ff], .mapo (encM (kI .i64) (kI .i64) x2.fa.fj), .mapo (encM (kI .i64) (kI .i64) x2.fa.fk), .dead, .blk r1.1.enc, .dead, .blk r2.1.enc]) 2 x1 z2 x2.fg [8] h7 (by rfl) (by decide) (by simp) (by simp [into]) (by simp) (by rfl)) ?_
   refine AWp.ret ?_
   obtain rfl := La hr
   refine Lf ?_
   simp

@[simp] noncomputable def gad.S : Sp
 | [.lit (.int .i64 x0), .lit (.int .i64 x1), .ptr i0 0], M => match M[i0]? with
  | some (.blk c0) => (match nthE c0 0 with
  | some (.ptr i1 0) => (match M[i1]? with
  | some (.blk c1) => (match nthE c1 5 with
  | some (.mp i2) => (match M[i2]? with
  | some (.own c2 none) => (match nthE c1 6 with
  | some (.ptr i3 0) => (match M[i3]? with
  | some (.blk c3) => (match nthE c3 1 with
  | some (.mp i4) => (match M[i4]? with
  | some (.mapo c4) => (match nthE c3 2 with
  | some (.mp i5) => (match M[i5]? with
  | some (.mapo c5) => (fun (y0 : Tg) => some { av := .lit (.int .i64 ((gad x0 x1 y0).getD dflt)), M := none, obl := c0 = [.ptr i1 0] ∧ c1 = Tg.enc y0 i2 i3 ∧ c2 = Td.own .i64 (y0.fg) none ∧ c3 = Tq.enc (y0.fa) i4 i5 ∧ c4 = encM (kI .i64) (kI .i64) (y0.fa.fj) ∧ c5 = encM (kI .i64) (kI .i64) (y0.fa.fk) ∧ (gad x0 x1 y0).isSome = true ∧ i0 ≠ i1 ∧ i0 ≠ i2 ∧ i0 ≠ i3 ∧ i0 ≠ i4 ∧ i0 ≠ i5 ∧ i1 ≠ i2 ∧ i1 ≠ i3 ∧ i1 ≠ i4 ∧ i1 ≠ i5 ∧ i2 ≠ i3 ∧ i2 ≠ i4 ∧ i2 ≠ i5 ∧ i3 ≠ i4 ∧ i3 ≠ i5 ∧ i4 ≠ i5 }) (Tg.dec c1 (decM dkI Td.dfl c2.data) (Tq.dec c3 (decM dkI dkI c4) (decM dkI dkI c5)))
  | _ => none)
  | _ => none)
  | _ => none)
  | _ => none)
  | _ => none)
  | _ => none)
  | _ => none)
  | _ => none)
  | _ => none)
  | _ => none)
  | _ => none
 | _, _ => none

theorem gad.ok : SpecOk Try.prog 76 gad.S := by
 intro l M out h
 unfold gad.S at h
 split at h
 ·rename_i x0 x1 i0
  split at h
  case h_2 => cases h
  rename_i c0 hM0
  split at h
  case h_2 => cases h
  rename_i i1 he1
  split at h
  case h_2 => cases h
  rename_i c1 hM1
  split at h
  case h_2 => cases h
  rename_i i2 he2
  split at h
  case h_2 => cases h
  rename_i c2 hM2
  split at h
  case h_2 => cases h
  rename_i i3 he3
  split at h
  case h_2 => cases h
  rename_i c3 hM3
  split at h
  case h_2 => cases h
  rename_i i4 he4
  split at h
  case h_2 => cases h
  rename_i c4 hM4
  split at h
  case h_2 => cases h
  rename_i i5 he5
  split at h
  case h_2 => cases h
  rename_i c5 hM5
  try dsimp only at h
  cases h
  refine callOk_of fun ho => ?_
  obtain ⟨oc0, oc1, oc2, oc3, oc4, oc5, hs, hne0, hne1, hne2, hne3, hne4, hne5, hne6, hne7, hne8, hne9, hne10, hne11, hne12, hne13, hne14⟩ := ho
  generalize (Tg.dec c1 (decM dkI Td.dfl c2.data) (Tq.dec c3 (decM dkI dkI c4) (decM dkI dkI c5))) = y0 at *
  subst oc0
  subst oc1
  subst oc2
  subst oc3
  subst oc4
  subst oc5
  obtain ⟨r, hr⟩ := Option.isSome_iff_exists.1 hs
  simp only [hr, Option.getD_some]
  have q := Lk (M := M) [i0, i1, i2, i3, i4, i5] (gad.can x0 x1 y0 r hr) (by simp [hne0, hne1, hne2, hne3, hne4, hne5, hne6, hne7, hne8, hne9, hne10, hne11, hne12, hne13, hne14]) rfl (by intro k i hk; (cases k with | zero => (simp at hk; subst hk; simp [hM0, into]) | succ k => ((cases k with | zero => (simp at hk; subst hk; simp [hM1, into]) | succ k => ((cases k with | zero => (simp at hk; subst hk; simp [hM2]) | succ k => ((cases k with | zero => (simp at hk; subst hk; simp [hM3, into]) | succ k => ((cases k with | zero => (simp at hk; subst hk; simp [hM4]) | succ k => ((cases k with | zero => (simp at hk; subst hk; simp [hM5]) | succ k => (simp at hk)))))))))))))
  exact callOk_conv q trivial (by simp [into]) (by simp [frameOut, gad.out, into]) (by simp only [frameOut, gad.out, Option.getD_some, Option.getD_none]; simp [into, hM0, hM1, hM2, hM3, hM4, hM5, set_same])
 ·cases h

@[simp] def ga.out (_x0 : List Int) (_x1c0 : Tg) (r : Int) : Out := { av := .lit (.int .i64 r), M := none }
def ga.fin (x0 : List Int) (x1c0 : Tg) (r : Int) (σ : St) : Prop := finK (ga.out x0 x1c0 r) [.blk [.ptr 1 0], .blk (x1c0.fe.enc ++ [.mp 2, .ptr 3 0, .lit (.int .i64 x1c0.fc), .lit (.int .i64 x1c0.fd)]), .own (Td.own .i64 x1c0.fg none) none, .blk [.lit (.int .i64 x1c0.fa.fb), .mp 4, .mp 5, .lit (.int .i64 x1c0.fa.fAt), .lit (.bool x1c0.fa.ff)], .mapo (encM (kI .i64) (kI .i64) x1c0.fa.fj), .mapo (encM (kI .i64) (kI .i64) x1c0.fa.fk)] σ.M (resA Try.ty σ.A σ.M Try.f75.results.toList)
theorem ga.can (x0 : List Int) (x1c0 : Tg) (r : Int) (hr : ga x0 x1c0 = some r) : CallOk Try.prog 75 [.sl (x0.map (eNum .i64)) .no, .clo 76 [.ptr 0 0]] [.blk [.ptr 1 0], .blk (x1c0.fe.enc ++ [.mp 2, .ptr 3 0, .lit (.int .i64 x1c0.fc), .lit (.int .i64 x1c0.fd)]), .own (Td.own .i64 x1c0.fg none) none, .blk [.lit (.int .i64 x1c0.fa.fb), .mp 4, .mp 5, .lit (.int .i64 x1c0.fa.fAt), .lit (.bool x1c0.fa.ff)], .mapo (encM (kI .i64) (kI .i64) x1c0.fa.fj), .mapo (encM (kI .i64) (kI .i64) x1c0.fa.fk)] (ga.out x0 x1c0 r) := by
 unfold ga at hr
 have hΓ := (gamL_cons gad.ok (gamL_nil) : GamOk Try.prog _)
 refine Lg Try.tyOk Try.func75 rfl (by kernel_rfl) rfl rfl (by simp) ?_
 intro _ _ _
 refine Try.tg hΓ [] [] (by kernel_rfl) rfl (by simp; exact rr) ?_
 refine AWp.meetF (fun (v1 : Unit) (γ1 : Unit) => ⟨[⟨0, none, .sl (x0.map (eNum .i64)) .no⟩, ⟨1, none, .clo 76 [.ptr 0 0]⟩], [.blk [.ptr 1 0], .blk (x1c0.fe.enc ++ [.mp 2, .ptr 3 0, .n x1c0.fc, .n x1c0.fd]), .own (Td.own .i64 x1c0.fg none) none, .blk [.n x1c0.fa.fb, .mp 4, .mp 5, .n x1c0.fa.fAt, .b x1c0.fa.ff], .mapo (encM (kI .i64) (kI .i64) x1c0.fa.fj), .mapo (encM (kI .i64) (kI .i64) x1c0.fa.fk)]⟩) (ga.fin x0 x1c0) hr (fun f hr => ?_) (fun v1 γ1 hr => ?_) (fun _ h => h)
 ·refine Try.tg hΓ [9] [] (by kernel_rfl) rfl (by simp; exact rr) ?_
  refine AWp.cond (b := (ltI (lenL x0) 1)) (by simp) (fun h8 => ?_) (fun h8 => ?_)
  ·have hr := Li h8 hr
   cases hr
  ·have hr := Lj h8 hr
   refine AWp.skip ?_
   obtain rfl := La hr
   exact Ls () 6 (by first | (simp; done) | simp [h8])
 ·obtain ⟨h9, hr⟩ := Lb hr
  refine Try.tg hΓ [5] [] (by kernel_rfl) rfl (by simp [h9]; exact rr) ?_
  refine AWp.seq ?_
  refine Try.tg hΓ [6] [] (by kernel_rfl) rfl (by simp; exact rr) ?_
  refine AWp.loopE (fun (s2 : Int × Int) (γ2 : Unit) => ⟨[⟨6, none, .n s2.1⟩, ⟨5, none, .n s2.2⟩, ⟨0, none, .sl (x0.map (eNum .i64)) .no⟩, ⟨1, none, .clo 76 [.ptr 0 0]⟩], [.blk [.ptr 1 0], .blk (x1c0.fe.enc ++ [.mp 2, .ptr 3 0, .n x1c0.fc, .n x1c0.fd]), .own (Td.own .i64 x1c0.fg none) none, .blk [.n x1c0.fa.fb, .mp 4, .mp 5, .n x1c0.fa.fAt, .b x1c0.fa.ff], .mapo (encM (kI .i64) (kI .i64) x1c0.fa.fj), .mapo (encM (kI .i64) (kI .i64) x1c0.fa.fk)]⟩) (fun (v2 : Int) (γ2a : Unit) => ⟨[⟨5, none, .n v2⟩], [.blk [.ptr 1 0], .blk (x1c0.fe.enc ++ [.mp 2, .ptr 3 0, .n x1c0.fc, .n x1c0.fd]), .own (Td.own .i64 x1c0.fg none) none, .blk [.n x1c0.fa.fb, .mp 4, .mp 5, .n x1c0.fa.fAt, .b x1c0.fa.ff], .mapo (encM (kI .i64) (kI .i64) x1c0.fa.fj), .mapo (encM (kI .i64) (kI .i64) x1c0.fa.fk)]⟩) (ga.fin x0 x1c0) hr () 6 (by simp) (fun s2 f γ2 hr => ?_) (fun v2 γ2a σ1 m1 hr hc => ?_) (fun _ h => h)
  ·unfold ga.loop2 at hr
   refine AWp.seq ?_
   refine Try.tg hΓ [17] [] (by kernel_rfl) rfl (by simp; exact rr) ?_
   refine AWp.cond (b := (ltI s2.1 (lenL x0))) (by simp) (fun h10 => ?_) (fun h10 => ?_)
   ·have hr := Li h10 hr
    refine AWp.skip ?_
    refine AWp.meetF (fun (v3 : Int) (γ3 : Unit) => ⟨[⟨6, none, .n s2.1⟩, ⟨5, none, .n v3⟩, ⟨0, none, .sl (x0.map (eNum .i64)) .no⟩, ⟨1, none, .clo 76 [.ptr 0 0]⟩], [.blk [.ptr 1 0], .blk (x1c0.fe.enc ++ [.mp 2, .ptr 3 0, .n x1c0.fc, .n x1c0.fd]), .own (Td.own .i64 x1c0.fg none) none, .blk [.n x1c0.fa.fb, .mp 4, .mp 5, .n x1c0.fa.fAt, .b x1c0.fa.ff], .mapo (encM (kI .i64) (kI .i64) x1c0.fa.fj), .mapo (encM (kI .i64) (kI .i64) x1c0.fa.fk)]⟩) (QRr (ga.fin x0 x1c0)) hr (fun f hr => ?_) (fun v3 γ3 hr => ?_) (fun _ h => QRr_ret h)
    ·refine AWp.block ?_
     obtain ⟨h11, hr⟩ := Lb hr
     obtain ⟨r1, h12, hr⟩ := Lc hr
     refine Try.tg hΓ [27] [17] (by kernel_rfl) rfl (by simp [h10, h11, h12]; exact rr) ?_
     refine AWp.cond (b := (ltI r1 0)) (by simp) (fun h13 => ?_) (fun h13 => ?_)
     ·have hr := Li h13 hr
      obtain ⟨h14, hr⟩ := Lb hr
      refine AWp.lst (AWp.reg Try.tyOk hΓ [5] [27] (by kernel_rfl) rfl (by simp [h11, h13]; exact rr)) ?_
      obtain rfl := La hr
      exact Ls () 6 (by first | (simp; done) | simp [h9, h10, h11, h12, h13, h14])
     ·have hr := Lj h13 hr
      refine AWp.skip ?_
      obtain rfl := La hr
      exact Ls () 6 (by first | (simp; done) | simp [h9, h10, h11, h12, h13])
    ·refine AWp.lst (AWp.reg Try.tyOk hΓ [6] [] (by kernel_rfl) rfl (by simp; exact rr)) ?_
     obtain rfl := La hr
     exact Lm () 6 (by first | (simp; done) | simp [h9, h10])
   ·have hr := Lj h10 hr
    refine AWp.exit ?_
    obtain rfl := La hr
    exact Lp () 6 (by first | (simp; done) | simp [h9, h10])
  ·refine AWp.conv hc ?_
   refine Try.tg hΓ [4] [5] (by kernel_rfl) rfl (by simp; exact rr) ?_
   refine AWp.ret ?_
   obtain rfl := La hr
   refine Lf ?_
   simp

@[simp] noncomputable def ga.S : Sp
 | [.sl e0 _, .clo 76 [.ptr i0 0]], M => match M[i0]? with
  | some (.blk c0) => (match nthE c0 0 with
  | some (.ptr i1 0) => (match M[i1]? with
  | some (.blk c1) => (match nthE c1 5 with
  | some (.mp i2) => (match M[i2]? with
  | some (.own c2 none) => (match nthE c1 6 with
  | some (.ptr i3 0) => (match M[i3]? with
  | some (.blk c3) => (match nthE c3 1 with
  | some (.mp i4) => (match M[i4]? with
  | some (.mapo c4) => (match nthE c3 2 with
  | some (.mp i5) => (match M[i5]? with
  | some (.mapo c5) => (fun (y0 : Tg) => some { av := .lit (.int .i64 ((ga (e0.map decI) y0).getD dflt)), M := none, obl := e0 = (e0.map decI).map (eNum .i64) ∧ c0 = [.ptr i1 0] ∧ c1 = Tg.enc y0 i2 i3 ∧ c2 = Td.own .i64 (y0.fg) none ∧ c3 = Tq.enc (y0.fa) i4 i5 ∧ c4 = encM (kI .i64) (kI .i64) (y0.fa.fj) ∧ c5 = encM (kI .i64) (kI .i64) (y0.fa.fk) ∧ (ga (e0.map decI) y0).isSome = true ∧ i0 ≠ i1 ∧ i0 ≠ i2 ∧ i0 ≠ i3 ∧ i0 ≠ i4 ∧ i0 ≠ i5 ∧ i1 ≠ i2 ∧ i1 ≠ i3 ∧ i1 ≠ i4 ∧ i1 ≠ i5 ∧ i2 ≠ i3 ∧ i2 ≠ i4 ∧ i2 ≠ i5 ∧ i3 ≠ i4 ∧ i3 ≠ i5 ∧ i4 ≠ i5 }) (Tg.dec c1 (decM dkI Td.dfl c2.data) (Tq.dec c3 (decM dkI dkI c4) (decM dkI dkI c5)))
  | _ => none)
  | _ => none)
  | _ => none)
  | _ => none)
  | _ => none)
  | _ => none)
  | _ => none)
  | _ => none)
  | _ => none)
  | _ => none)
  | _ => none
 | _, _ => none

theorem ga.ok : SpecOk Try.prog 75 ga.S := by
 intro l M out h
 unfold ga.S at h
 split at h
 ·rename_i e0 k0 i0
  split at h
  case h_2 => cases h
  rename_i c0 hM0
  split at h
  case h_2 => cases h
  rename_i i1 he1
  split at h
  case h_2 => cases h
  rename_i c1 hM1
  split at h
  case h_2 => cases h
  rename_i i2 he2
  split at h
  case h_2 => cases h
  rename_i c2 hM2
  split at h
  case h_2 => cases h
  rename_i i3 he3
  split at h
  case h_2 => cases h
  rename_i c3 hM3
  split at h
  case h_2 => cases h
  rename_i i4 he4
  split at h
  case h_2 => cases h
  rename_i c4 hM4
  split at h
  case h_2 => cases h
  rename_i i5 he5
  split at h
  case h_2 => cases h
  rename_i c5 hM5
  try dsimp only at h
  cases h
  refine callOk_of fun ho => ?_
  obtain ⟨ox0, oc0, oc1, oc2, oc3, oc4, oc5, hs, hne0, hne1, hne2, hne3, hne4, hne5, hne6, hne7, hne8, hne9, hne10, hne11, hne12, hne13, hne14⟩ := ho
  generalize (e0.map decI) = x0 at *
  generalize (Tg.dec c1 (decM dkI Td.dfl c2.data) (Tq.dec c3 (decM dkI dkI c4) (decM dkI dkI c5))) = y0 at *
  subst ox0
  subst oc0
  subst oc1
  subst oc2
  subst oc3
  subst oc4
  subst oc5
  obtain ⟨r, hr⟩ := Option.isSome_iff_exists.1 hs
  simp only [hr, Option.getD_some]
  have q := Lk (M := M) [i0, i1, i2, i3, i4, i5] (ga.can x0 y0 r hr) (by simp [hne0, hne1, hne2, hne3, hne4, hne5, hne6, hne7, hne8, hne9, hne10, hne11, hne12, hne13, hne14]) rfl (by intro k i hk; (cases k with | zero => (simp at hk; subst hk; simp [hM0, into]) | succ k => ((cases k with | zero => (simp at hk; subst hk; simp [hM1, into]) | succ k => ((cases k with | zero => (simp at hk; subst hk; simp [hM2]) | succ k => ((cases k with | zero => (simp at hk; subst hk; simp [hM3, into]) | succ k => ((cases k with | zero => (simp at hk; subst hk; simp [hM4]) | succ k => ((cases k with | zero => (simp at hk; subst hk; simp [hM5]) | succ k => (simp at hk)))))))))))))
  exact callOk_conv q trivial (by simp [into]) (by simp [frameOut, ga.out, into]) (by simp only [frameOut, ga.out, Option.getD_some, Option.getD_none]; simp [into, hM0, hM1, hM2, hM3, hM4, hM5, set_same])
 ·cases h

@[simp] def gak.out (_x0 : Tg) (_x1 : List Int) (r : Int) : Out := { av := .lit (.int .i64 r), M := none }
theorem gak.can (x0 : Tg) (x1 : List Int) (r : Int) (hr : gak x0 x1 = some r) : CallOk Try.prog 62 [.ptr 0 0, .sl (x1.map (eNum .i64)) .no] [.blk (x0.fe.enc ++ [.mp 1, .ptr 2 0, .lit (.int .i64 x0.fc), .lit (.int .i64 x0.fd)]), .own (Td.own .i64 x0.fg none) none, .blk [.lit (.int .i64 x0.fa.fb), .mp 3, .mp 4, .lit (.int .i64 x0.fa.fAt), .lit (.bool x0.fa.ff)], .mapo (encM (kI .i64) (kI .i64) x0.fa.fj), .mapo (encM (kI .i64) (kI .i64) x0.fa.fk)] (gak.out x0 x1 r) := by
 unfold gak at hr
 have hΓ := (gamL_cons ga.ok (gamL_nil) : GamOk Try.prog _)
 refine Lg Try.tyOk Try.func62 rfl (by kernel_rfl) rfl rfl (by simp) ?_
 intro _ _ _
 refine Try.tg hΓ [2] [0] (by kernel_rfl) rfl (by simp; exact rr) ?_
 obtain ⟨r1, h2, hr⟩ := Lc hr
 refine Try.tg hΓ [4] [2, 1] (by kernel_rfl) rfl (by simp [h2]; exact rr) ?_
 refine AWp.ret ?_
 obtain rfl := La hr
 refine Lf ?_
 simp

@[simp] noncomputable def gak.S : Sp
 | [.ptr i0 0, .sl e1 _], M => match M[i0]? with
  | some (.blk c0) => (match nthE c0 5 with
  | some (.mp i1) => (match M[i1]? with
  | some (.own c1 none) => (match nthE c0 6 with
  | some (.ptr i2 0) => (match M[i2]? with
  | some (.blk c2) => (match nthE c2 1 with
  | some (.mp i3) => (match M[i3]? with
  | some (.mapo c3) => (match nthE c2 2 with
  | some (.mp i4) => (match M[i4]? with
  | some (.mapo c4) => (fun (y0 : Tg) => some { av := .lit (.int .i64 ((gak y0 (e1.map decI)).getD dflt)), M := none, obl := e1 = (e1.map decI).map (eNum .i64) ∧ c0 = Tg.enc y0 i1 i2 ∧ c1 = Td.own .i64 (y0.fg) none ∧ c2 = Tq.enc (y0.fa) i3 i4 ∧ c3 = encM (kI .i64) (kI .i64) (y0.fa.fj) ∧ c4 = encM (kI .i64) (kI .i64) (y0.fa.fk) ∧ (gak y0 (e1.map decI)).isSome = true ∧ i0 ≠ i1 ∧ i0 ≠ i2 ∧ i0 ≠ i3 ∧ i0 ≠ i4 ∧ i1 ≠ i2 ∧ i1 ≠ i3 ∧ i1 ≠ i4 ∧ i2 ≠ i3 ∧ i2 ≠ i4 ∧ i3 ≠ i4 }) (Tg.dec c0 (decM dkI Td.dfl c1.data) (Tq.dec c2 (decM dkI dkI c3) (decM dkI dkI c4)))
  | _ => none)
  | _ => none)
  | _ => none)
  | _ => none)
  | _ => none)
  | _ => none)
  | _ => none)
  | _ => none)
  | _ => none
 | _, _ => none

theorem gak.ok : SpecOk Try.prog 62 gak.S := by
 intro l M out h
 unfold gak.S at h
 split at h
 ·rename_i i0 e1 k1
  split at h
  case h_2 => cases h
  rename_i c0 hM0
  split at h
  case h_2 => cases h
  rename_i i1 he1
  split at h
  case h_2 => cases h
  rename_i c1 hM1
  split at h
  case h_2 => cases h
  rename_i i2 he2
  split at h
  case h_2 => cases h
  rename_i c2 hM2
  split at h
  case h_2 => cases h
  rename_i i3 he3
  split at h
  case h_2 => cases h
  rename_i c3 hM3
  split at h
  case h_2 => cases h
  rename_i i4 he4
  split at h
  case h_2 => cases h
  rename_i c4 hM4
  try dsimp only at h
  cases h
  refine callOk_of fun ho => ?_
  obtain ⟨ox1, oc0, oc1, oc2, oc3, oc4, hs, hne0, hne1, hne2, hne3, hne4, hne5, hne6, hne7, hne8, hne9⟩ := ho
  generalize (Tg.dec c0 (decM dkI Td.dfl c1.data) (Tq.dec c2 (decM dkI dkI c3) (decM dkI dkI c4))) = y0 at *
  generalize (e1.map decI) = x1 at *
  subst ox1
  subst oc0
  subst oc1
  subst oc2
  subst oc3
  subst oc4
  obtain ⟨r, hr⟩ := Option.isSome_iff_exists.1 hs
  simp only [hr, Option.getD_some]
  have q := Lk (M := M) [i0, i1, i2, i3, i4] (gak.can y0 x1 r hr) (by simp [hne0, hne1, hne2, hne3, hne4, hne5, hne6, hne7, hne8, hne9]) rfl (by intro k i hk; (cases k with | zero => (simp at hk; subst hk; simp [hM0, into]) | succ k => ((cases k with | zero => (simp at hk; subst hk; simp [hM1]) | succ k => ((cases k with | zero => (simp at hk; subst hk; simp [hM2, into]) | succ k => ((cases k with | zero => (simp at hk; subst hk; simp [hM3]) | succ k => ((cases k with | zero => (simp at hk; subst hk; simp [hM4]) | succ k => (simp at hk)))))))))))
  exact callOk_conv q trivial (by simp [into]) (by simp [frameOut, gak.out, into]) (by simp only [frameOut, gak.out, Option.getD_some, Option.getD_none]; simp [into, hM0, hM1, hM2, hM3, hM4, set_same])
 ·cases h
end Go.Proofs
