import Derived.Test.YtoiieebljbhpbaaGreatDoorM08
import Derived.Test.YtoiieebljbhpbaaGreatDoorTy
import Derived.Test.YtoiieebljbhpbaaGreatDoorM14
import Derived.Test.YtoiieebljbhpbaaGreatDoorM12
import Derived.Test.YtoiieebljbhpbaaGreatDoorAv
section
set_option maxRecDepth 100000
set_option maxHeartbeats 4000000
namespace Go.Proofs
open Go.Ab
@[simp] def gaJ.out  (r : Tp) : Out := { av := .ptr 1 0, M := some [.mapo (qas (kI .i64) (vA Ta.enc) r.fe), .blk [.mp 0, .lit (.int .i64 r.fj)]] }
theorem gaJ.can  (r : Tp) (hr : gaJ = some r) : qao Tryz.prog 32 [] [] (gaJ.out  r) := by
 unfold gaJ at hr;have hΓ := qae (P := Tryz.prog);refine cw Tryz.func32 rfl (by kernel_rfl) rfl rfl (by simp) fun _ _ _ => ?_;refine tq hΓ [] [] ?_;refine tq hΓ [0] [] ?_;obtain rfl := La hr;exact AWp.ret (Ld (by simp))
@[simp] noncomputable def gaJ.S : Sp
  | [], M => some { av := .ptr (M.length + 1) 0, M := some (M ++ [.mapo (qas (kI .i64) (vA Ta.enc) ((gaJ.getD dflt).fe)), .blk [.mp M.length, .lit (.int .i64 ((gaJ.getD dflt).fj))]]), obl := gaJ.isSome = true }
  | _, _ => none
theorem gaJ.ok : qap Tryz.prog 32 gaJ.S := by
 intro l M out h;unfold gaJ.S at h;split at h
 ·cases h;refine qad fun ho => ?_;have hs := ho;obtain ⟨r, hr⟩ := so1 hs;simp only [hr, gd1];have q := Lf (M := M) [] (gaJ.can r hr) (by simp) rfl ixn;exact qac q trivial (by simp) (by simp [qaa, into]) (by simp [qaa, into])
 ·cases h
@[simp] noncomputable def gaS.S : Sp
  | [.ptr i0 0], M => (rdB M i0).bind fun c0 => (rdM c0 0).bind fun i1 => (rdE M i1).bind fun c1 => some { av := .lit (.int .i64 ((gaS (Tp.dec c0 (decM dkI (dvA Ta.dec) c1))).getD dflt)), M := none, obl := c0 = Tp.enc (Tp.dec c0 (decM dkI (dvA Ta.dec) c1)) i1 ∧ c1 = qas (kI .i64) (vA Ta.enc) ((Tp.dec c0 (decM dkI (dvA Ta.dec) c1)).fe) ∧ (gaS (Tp.dec c0 (decM dkI (dvA Ta.dec) c1))).isSome = true ∧ i0 ≠ i1 }
  | _, _ => none
@[simp] def gU.m (x0 : Tp) (_x1 : Int) : List qau := [.blk [.mp 1, .lit (.int .i64 x0.fj)], .mapo (qas (kI .i64) (vA Ta.enc) x0.fe)]
@[simp] def gU.out (_x0 : Tp) (_x1 : Int) (r : Ta × Bool) : Out := { av := .tup [.agg [.lit (.int .i64 r.1.fN), .lit (.string r.1.fp), .lit (.string r.1.fm)], .lit (.bool r.2)], M := none }
theorem gU.can (x0 : Tp) (x1 : Int) (r : Ta × Bool) (hr : gU x0 x1 = some r) : qao Tryz.prog 15 [.ptr 0 0, .lit (.int .i64 x1)] (gU.m x0 x1) (gU.out x0 x1 r) := by
 unfold gU at hr;have hΓ := qae (P := Tryz.prog);refine cw Tryz.func15 rfl (by kernel_rfl) rfl rfl (by simp) fun _ _ _ => ?_;refine tq hΓ [4] [] ?_;refine tq hΓ [6, 7] [0, 1] ?_;refine tq hΓ [5] [6, 7] ?_;obtain rfl := La hr;exact AWp.ret (Ld (by simp))
@[simp] noncomputable def gU.S : Sp
  | [.ptr i0 0, .lit (.int .i64 x1)], M => (rdB M i0).bind fun c0 => (rdM c0 0).bind fun i1 => (rdE M i1).bind fun c1 => (fun (y0 : Tp) => (fun (r : Ta × Bool) => some { av := .tup [.agg [.lit (.int .i64 (r.1.fN)), .lit (.string (r.1.fp)), .lit (.string (r.1.fm))], .lit (.bool (r.2))], M := none, obl := c0 = Tp.enc y0 i1 ∧ c1 = qas (kI .i64) (vA Ta.enc) (y0.fe) ∧ (gU y0 x1).isSome = true ∧ i0 ≠ i1 }) ((gU y0 x1).getD dflt)) (Tp.dec c0 (decM dkI (dvA Ta.dec) c1))
  | _, _ => none
theorem gU.ok : qap Tryz.prog 15 gU.S := by
 intro l M out h;unfold gU.S at h;split at h
 ·rename_i i0 x1;obtain ⟨c0, hM0, h⟩ := bB h;obtain ⟨i1, he1, h⟩ := bM h;obtain ⟨c1, hM1, h⟩ := bE h
  try dsimp only at h
  cases h;refine qad fun ho => ?_;obtain ⟨oc0, oc1, hs, hne0⟩ := ho;generalize (Tp.dec c0 (decM dkI (dvA Ta.dec) c1)) = y0 at *
  subst oc0;subst oc1;obtain ⟨r, hr⟩ := so1 hs;simp only [hr, gd1];have q := Lf (M := M) [i0, i1] (gU.can y0 x1 r hr) (by simp [hne0]) rfl (ix (by simp [hM0, into]) (ix (by simp [hM1]) ixn));exact qac q trivial (by simp [into]) (by simp [qaa, into]) (by simp only [qaa, gU.out, Option.getD_some, Option.getD_none]; simp [into, hM0, hM1, set_same])
 ·cases h
@[simp] def gG.m (x0 : Tp) (_x1 : ByteArray) : List qau := [.blk [.mp 1, .lit (.int .i64 x0.fj)], .mapo (qas (kI .i64) (vA Ta.enc) x0.fe)]
@[simp] def gG.out (_x0 : Tp) (_x1 : ByteArray) (r : List Ta) : Out := { av := .sl (r.map Ta.enc) .no, M := none }
def gG.fin (x0 : Tp) (x1 : ByteArray) (r : List Ta) (σ : St) : Prop := finK (gG.out x0 x1 r) (gG.m x0 x1) σ.M (resA Tryz.ty σ.A σ.M Tryz.f81.results.toList)
theorem gG.can (x0 : Tp) (x1 : ByteArray) (r : List Ta) (hr : gG x0 x1 = some r) : qao Tryz.prog 81 [.ptr 0 0, .lit (.string x1)] (gG.m x0 x1) (gG.out x0 x1 r) := by
 unfold gG at hr;have hΓ := (qab gag.ok (qab libKeys.gMapsKeysMapIntRoomPeerIntRoomPeer.ok (qab libSorted.gSortedMapIntRoomPeerIntRoomPeer1.ok (qae))) : qbc Tryz.prog _);refine cw Tryz.func81 rfl (by kernel_rfl) rfl rfl (by simp) fun _ _ _ => ?_;refine tq hΓ [] [] ?_;refine tq hΓ [5] [] ?_;refine AWp.seq ?_;obtain ⟨h7, hr⟩ := Lg hr;refine tq hΓ [14, 15, 16] [] ?_ (by simp [h7]; exact rr);refine AWp.equip 5 3 (els := []) (by simp) (by simp) ?_;refine AWp.loopE (fun (s1 : Int × List Ta) (γ1 : Nat) => ⟨[⟨14, none, .sl ((sortL (keysM x0.fe)).map (eNum .i64)) .no⟩, ⟨15, none, .n (qat (sortL (keysM x0.fe)))⟩, ⟨16, none, .n s1.1⟩, ⟨5, none, .sl (s1.2.map Ta.enc) (.own 2 (γ1) 3)⟩, ⟨0, none, .ptr 0 0⟩, ⟨1, none, .s x1⟩], [.blk [.mp 1, .n x0.fj], .mapo (qas (kI .i64) (vA Ta.enc) x0.fe), .room (γ1)]⟩) (fun (v1 : List Ta) (γ1a : Nat) => ⟨[⟨5, none, .sl (v1.map Ta.enc) (.own 2 (γ1a) 3)⟩], [.blk [.mp 1, .n x0.fj], .mapo (qas (kI .i64) (vA Ta.enc) x0.fe), .room (γ1a)]⟩) (gG.fin x0 x1) hr 0 3 (by simp) (fun s1 f γ1 hr => ?_) (fun v1 γ1a σ1 m1 hr hc => ?_) (fun _ h => h)
 ·unfold gG.loop1 at hr;refine tq hΓ [17] [] ?_ (by simp; exact rr);refine AWp.seq ?_;refine AWp.cnd hr (by simp) (fun h8 hr => ?_) (fun h8 hr => ?_)
  ·refine AWp.skip ?_;refine AWp.seq ?_;refine AWp.block ?_;obtain ⟨h9, hr⟩ := Lg hr;refine tq hΓ [7] [17] ?_ (by simp [h8, h9]; exact rr);refine tq hΓ [8] [7] ?_ (by simp; exact rr);obtain ⟨r1, h10, hr⟩ := Lb hr;refine tq hΓ [29] [] ?_ (by simp [h10]; exact rr);refine AWp.cnd hr (by simp) (fun h11 hr => ?_) (fun h11 hr => ?_)
   ·obtain ⟨h12, hr⟩ := Lg hr;refine tl hΓ [5] [29, 8] ?_ (by simp [h11, h12]; exact rr);refine tl hΓ [16] [] ?_ (by simp; exact rr);obtain rfl := La hr;exact Lq (γ1 + 1) 3 (by first | (simp; done) | simp [h7, h8, h9, h10, h11, h12])
   ·refine AWp.skip ?_;refine tl hΓ [16] [29, 8] ?_ (by simp [h11]; exact rr);obtain rfl := La hr;exact Lq (γ1) 3 (by first | (simp; done) | simp [h7, h8, h9, h10, h11])
  ·refine AWp.exit ?_;obtain rfl := La hr;exact Ln (γ1) 3 (by first | (simp; done) | simp [h7, h8])
 ·refine AWp.conv hc ?_;refine tq hΓ [4] [5] ?_ (by simp; exact rr);obtain rfl := La hr;exact AWp.ret (Ld (by simp))
@[simp] noncomputable def gG.S : Sp
  | [.ptr i0 0, .lit (.string x1)], M => (rdB M i0).bind fun c0 => (rdM c0 0).bind fun i1 => (rdE M i1).bind fun c1 => some { av := .sl (((gG (Tp.dec c0 (decM dkI (dvA Ta.dec) c1)) x1).getD dflt).map Ta.enc) .no, M := none, obl := c0 = Tp.enc (Tp.dec c0 (decM dkI (dvA Ta.dec) c1)) i1 ∧ c1 = qas (kI .i64) (vA Ta.enc) ((Tp.dec c0 (decM dkI (dvA Ta.dec) c1)).fe) ∧ (gG (Tp.dec c0 (decM dkI (dvA Ta.dec) c1)) x1).isSome = true ∧ i0 ≠ i1 }
  | _, _ => none
theorem gG.ok : qap Tryz.prog 81 gG.S := by
 intro l M out h;unfold gG.S at h;split at h
 ·rename_i i0 x1;obtain ⟨c0, hM0, h⟩ := bB h;obtain ⟨i1, he1, h⟩ := bM h;obtain ⟨c1, hM1, h⟩ := bE h;cases h;refine qad fun ho => ?_;obtain ⟨oc0, oc1, hs, hne0⟩ := ho;generalize (Tp.dec c0 (decM dkI (dvA Ta.dec) c1)) = y0 at *
  subst oc0;subst oc1;obtain ⟨r, hr⟩ := so1 hs;simp only [hr, gd1];have q := Lf (M := M) [i0, i1] (gG.can y0 x1 r hr) (by simp [hne0]) rfl (ix (by simp [hM0, into]) (ix (by simp [hM1]) ixn));exact qac q trivial (by simp [into]) (by simp [qaa, into]) (by simp only [qaa, gG.out, Option.getD_some, Option.getD_none]; simp [into, hM0, hM1, set_same])
 ·cases h
@[simp] def gaa.m (x0 : Tp) (_x1 : Int) : List qau := [.blk [.mp 1, .lit (.int .i64 x0.fj)], .mapo (qas (kI .i64) (vA Ta.enc) x0.fe)]
@[simp] def gaa.out (_x0 : Tp) (_x1 : Int) (r : Int × Tp) : Out := { av := .lit (.int .i64 r.1), M := some [.blk [.mp 1, .lit (.int .i64 r.2.fj)], .mapo (qas (kI .i64) (vA Ta.enc) r.2.fe)] }
theorem gaa.can (x0 : Tp) (x1 : Int) (r : Int × Tp) (hr : gaa x0 x1 = some r) : qao Tryz.prog 85 [.ptr 0 0, .lit (.int .i64 x1)] (gaa.m x0 x1) (gaa.out x0 x1 r) := by
 unfold gaa at hr;have hΓ := qae (P := Tryz.prog);refine cw Tryz.func85 rfl (by kernel_rfl) rfl rfl (by simp) fun _ _ _ => ?_;refine tq hΓ [] [] ?_;refine AWp.seq ?_;refine tq hΓ [6] [] ?_;refine tq hΓ [17] [6] ?_;refine AWp.cnd hr (by simp) (fun h2 hr => ?_) (fun h2 hr => ?_)
 ·refine tq hΓ [4] [17, 0, 1] ?_ (by simp [h2]; exact rr);obtain rfl := La hr;exact AWp.ret (Ld (by simp))
 ·refine AWp.skip ?_;refine tq hΓ [] [17, 0, 1] ?_ (by simp [h2]; exact rr);refine tq hΓ [4] [] ?_ (by simp; exact rr);obtain rfl := La hr;exact AWp.ret (Ld (by simp))
@[simp] noncomputable def gaa.S : Sp
  | [.ptr i0 0, .lit (.int .i64 x1)], M => (rdB M i0).bind fun c0 => (rdM c0 0).bind fun i1 => (rdE M i1).bind fun c1 => (fun (y0 : Tp) => (fun (r : Int × Tp) => some { av := .lit (.int .i64 (r.1)), M := some ((M.set i0 (.blk [.mp i1, .lit (.int .i64 (r.2.fj))])).set i1 (.mapo (qas (kI .i64) (vA Ta.enc) (r.2.fe)))), obl := c0 = Tp.enc y0 i1 ∧ c1 = qas (kI .i64) (vA Ta.enc) (y0.fe) ∧ (gaa y0 x1).isSome = true ∧ i0 ≠ i1 }) ((gaa y0 x1).getD dflt)) (Tp.dec c0 (decM dkI (dvA Ta.dec) c1))
  | _, _ => none
theorem gaa.ok : qap Tryz.prog 85 gaa.S := by
 intro l M out h;unfold gaa.S at h;split at h
 ·rename_i i0 x1;obtain ⟨c0, hM0, h⟩ := bB h;obtain ⟨i1, he1, h⟩ := bM h;obtain ⟨c1, hM1, h⟩ := bE h
  try dsimp only at h
  cases h;refine qad fun ho => ?_;obtain ⟨oc0, oc1, hs, hne0⟩ := ho;generalize (Tp.dec c0 (decM dkI (dvA Ta.dec) c1)) = y0 at *
  subst oc0;subst oc1;obtain ⟨r, hr⟩ := so1 hs;simp only [hr, gd1];have q := Lf (M := M) [i0, i1] (gaa.can y0 x1 r hr) (by simp [hne0]) rfl (ix (by simp [hM0, into]) (ix (by simp [hM1]) ixn));exact qac q trivial (by simp [into]) (by simp [qaa, into]) (by simp [qaa, into])
 ·cases h
@[simp] def gD.m (x0 : Tp) (_x1 : Int) (_x2 : Int) : List qau := [.blk [.mp 1, .lit (.int .i64 x0.fj)], .mapo (qas (kI .i64) (vA Ta.enc) x0.fe)]
@[simp] def gD.out (_x0 : Tp) (_x1 : Int) (_x2 : Int) (r : Bool) : Out := { av := .lit (.bool r), M := none }
theorem gD.can (x0 : Tp) (x1 : Int) (x2 : Int) (r : Bool) (hr : gD x0 x1 x2 = some r) : qao Tryz.prog 14 [.ptr 0 0, .lit (.int .i64 x1), .lit (.int .i64 x2)] (gD.m x0 x1 x2) (gD.out x0 x1 x2 r) := by
 unfold gD at hr;have hΓ := (qab gag.ok (qae) : qbc Tryz.prog _);refine cw Tryz.func14 rfl (by kernel_rfl) rfl rfl (by simp) fun _ _ _ => ?_;refine tq hΓ [] [] ?_;refine tq hΓ [7, 8] [] ?_;refine tq hΓ [9, 10] [0] ?_;obtain ⟨h2, hr⟩ := Lg hr;refine tq hΓ [6] [9, 10, 7, 8, 1, 2] ?_ (by simp [h2]; exact rr);obtain rfl := La hr;exact AWp.ret (Ld (by simp))
@[simp] noncomputable def gD.S : Sp
  | [.ptr i0 0, .lit (.int .i64 x1), .lit (.int .i64 x2)], M => (rdB M i0).bind fun c0 => (rdM c0 0).bind fun i1 => (rdE M i1).bind fun c1 => some { av := .lit (.bool ((gD (Tp.dec c0 (decM dkI (dvA Ta.dec) c1)) x1 x2).getD dflt)), M := none, obl := c0 = Tp.enc (Tp.dec c0 (decM dkI (dvA Ta.dec) c1)) i1 ∧ c1 = qas (kI .i64) (vA Ta.enc) ((Tp.dec c0 (decM dkI (dvA Ta.dec) c1)).fe) ∧ (gD (Tp.dec c0 (decM dkI (dvA Ta.dec) c1)) x1 x2).isSome = true ∧ i0 ≠ i1 }
  | _, _ => none
theorem gD.ok : qap Tryz.prog 14 gD.S := by
 intro l M out h;unfold gD.S at h;split at h
 ·rename_i i0 x1 x2;obtain ⟨c0, hM0, h⟩ := bB h;obtain ⟨i1, he1, h⟩ := bM h;obtain ⟨c1, hM1, h⟩ := bE h;cases h;refine qad fun ho => ?_;obtain ⟨oc0, oc1, hs, hne0⟩ := ho;generalize (Tp.dec c0 (decM dkI (dvA Ta.dec) c1)) = y0 at *
  subst oc0;subst oc1;obtain ⟨r, hr⟩ := so1 hs;simp only [hr, gd1];have q := Lf (M := M) [i0, i1] (gD.can y0 x1 x2 r hr) (by simp [hne0]) rfl (ix (by simp [hM0, into]) (ix (by simp [hM1]) ixn));exact qac q trivial (by simp [into]) (by simp [qaa, into]) (by simp only [qaa, gD.out, Option.getD_some, Option.getD_none]; simp [into, hM0, hM1, set_same])
 ·cases h
end Go.Proofs
end
section
namespace Go.Proofs
open Go.Ab Go.Lib
theorem find_app {L : List Pr} {a : Int} {p q : Pr} (h : findL L a = some q) : findL (L ++ [p]) a = some q := by
 unfold findL at *
 rw [List.find?_append, h]; rfl
theorem find_join {L : List Pr} {nx : Int} {r s : ByteArray} {a : Int} {q : Pr} (h : findL L a = some q) : findL (joinL L nx r s).1 a = some q := by
 unfold joinL;split
 ·split
  ·exact h
  ·split
   ·exact h
   ·exact find_app h
 ·exact h
theorem tog_of {L L' : List Pr} (h : ∀ a q, findL L a = some q → findL L' a = some q) {a b : Int} (ht : togL L a b = true) : togL L' a b = true := by
 unfold togL at *
 cases ha : findL L a with
 | none => rw [ha] at ht; simp at ht
 | some p =>
   cases hb : findL L b with
   | none => rw [ha, hb] at ht; simp at ht
   | some q =>
     rw [h a p ha, h b q hb];rw [ha, hb] at ht;exact ht
theorem tog_ne {L : List Pr} {a b : Int} (ht : togL L a b = true) : a ≠ b ∧ (findL L a).isSome = true ∧ (findL L b).isSome = true := by
 unfold togL at ht;simp only [Bool.and_eq_true, decide_eq_true_eq] at ht;exact ⟨ht.1.2, ht.1.1.1, ht.1.1.2⟩
theorem find_leave {L : List Pr} {n a : Int} (h : a ≠ n) : findL (leaveL L n) a = findL L a := by
 unfold findL leaveL
 induction L with
 | nil => rfl
 | cons p L ih =>
   rw [List.filter_cons];by_cases hp : p.fN = n
   ·have h1 : neI p.fN n = false := neI_f hp;have h2 : eqI p.fN a = false := eqI_f (by omega);rw [h1, List.find?_cons, h2];simpa using ih
   ·have h1 : neI p.fN n = true := neI_t hp;rw [h1];simp only [if_true, List.find?_cons, ih]
theorem tog_leave {L : List Pr} {n a b : Int} (ha : a ≠ n) (hb : b ≠ n) : togL (leaveL L n) a b = togL L a b := by
 unfold togL;rw [find_leave ha, find_leave hb]
theorem ltSb_lnk {a b a' b' : Sb} (h1 : lnk a = lnk a') (h2 : lnk b = lnk b') : ltSb a b = ltSb a' b' := by
 simp only [lnk, Tb.mk.injEq, Tc.mk.injEq] at h1 h2;unfold ltSb;rw [h1.1, h1.2.1, h1.2.2, h2.1, h2.2.1, h2.2.2]
theorem upd_lnk {S : List Sb} {l : Tb} {f : Sb → Sb} (hf : ∀ s, lnk (f s) = lnk s) {s' : Sb} (h : s' ∈ updS S l f) : ∃ s ∈ S, lnk s' = lnk s := by
 obtain ⟨s, hs, rfl⟩ := List.mem_map.1 h;refine ⟨s, hs, ?_⟩;split
 ·exact hf s
 ·rfl
theorem upd_up {S : List Sb} (hu : S.Pairwise fun a b => ltSb a b = true) {l : Tb} {f : Sb → Sb} (hf : ∀ s, lnk (f s) = lnk s) : (updS S l f).Pairwise fun a b => ltSb a b = true := by
 unfold updS;rw [List.pairwise_map]
 have key : ∀ s : Sb, lnk (if Tb.eq l (lnk s) = true then f s else s) = lnk s := fun s => by
  split
  ·exact hf s
  ·rfl
 exact hu.imp fun {a b} h => by rw [ltSb_lnk (key a) (key b)]; exact h
theorem upd_len (S : List Sb) (l : Tb) (f : Sb → Sb) : (updS S l f).length = S.length := by simp [updS]
section
variable {n : Nat} {L : List Pr} {nx : Int} {T : List Tk} {S : List Sb} {m m' : List (Tb × Tf)}
theorem Acc.mono (h : Acc n L nx T S m) (hn : n + 1 ≤ 1000) (hp : m'.Perm (subL S)) : Acc (n + 1) L nx T S m' :=
 ⟨h.tbl, hn, by have := h.tlen; omega, by have := h.slen; omega, h.tnd, h.snd, h.tss, h.up, hp, h.own, h.sub⟩
theorem Acc.subs (h : Acc n L nx T S m) (hn : n + 1 ≤ 1000) {S' : List Sb} (hl : S'.length ≤ S.length) (hu : S'.Pairwise fun a b => ltSb a b = true) (hs : ∀ s' ∈ S', ∃ s ∈ S, lnk s' = lnk s) (hp : m'.Perm (subL S')) : Acc (n + 1) L nx T S' m' :=
 ⟨h.tbl, hn, by have := h.tlen; omega, by have := h.slen; omega, h.tnd, h.snd, h.tss, hu, hp, h.own, fun s' hs' => by
  obtain ⟨s, h1, h2⟩ := hs s' hs';simp only [lnk, Tb.mk.injEq, Tc.mk.injEq] at h2;rw [h2.1, h2.2.1, h2.2.2];exact h.sub s h1⟩
theorem hasT_sub {T T' : List Tk} {k : Tc} (h : ∀ t ∈ T, keyT t = k → t ∈ T') (ht : hasT T k = true) : hasT T' k = true := by
 obtain ⟨t, h1, h2⟩ := hasT_iff.1 ht;exact hasT_iff.2 ⟨t, h t h1 h2, h2⟩
theorem Acc.join (h : Acc n L nx T S m) (hn : n + 1 ≤ 1000) {r s : ByteArray} (hr : r.size ≤ 1000) (hs : s.size ≤ 1000) (hp : m'.Perm (subL S)) : Acc (n + 1) (joinL L nx r s).1 (joinL L nx r s).2.1 T S m' :=
 ⟨h.tbl.join hr hs, hn, by have := h.tlen; omega, by have := h.slen; omega, h.tnd, h.snd, h.tss, h.up, hp, fun t ht => by
  obtain ⟨h1, h2⟩ := h.own t ht;obtain ⟨q, hq⟩ := Option.isSome_iff_exists.1 h1;rw [find_join hq];exact ⟨rfl, h2⟩, fun x hx => ⟨(h.sub x hx).1, tog_of (fun a q hq => find_join hq) (h.sub x hx).2⟩⟩
theorem Acc.leave (h : Acc n L nx T S m) (hn : n + 1 ≤ 1000) (p : Int) (hp : m'.Perm (subL (lvS S p))) : Acc (n + 1) (leaveL L p) nx (rmN T p 4) (lvS S p) m' := by
 have s1 := rmN_sub T p 4;have s2 := lvS_sub S p
 have hne : ∀ t ∈ T, (∀ j : Nat, j < 4 → keyT t ≠ ⟨p, (j : Int)⟩) → t.fc ≠ p := fun t ht hj e => by
  obtain ⟨_, h2, h3⟩ := h.own t ht;refine hj t.fN.toNat (by omega) ?_;unfold keyT;rw [e, Int.toNat_of_nonneg h2]
 refine ⟨h.tbl.leave p, hn, by have := h.tlen; have := s1.length_le; omega, by have := h.slen; have := s2.length_le; omega, h.tnd.sublist (s1.map _), h.snd.sublist (all_sub s1), fun t ht => h.tss t (s1.subset ht), h.up.sublist s2, hp, fun t ht => ?_, fun s hs => ?_⟩
 ·obtain ⟨h1, h2⟩ := rmN_mem.1 ht;rw [find_leave (hne t h1 h2)];exact h.own t h1
 ·obtain ⟨h1, h2, h3⟩ := lvS_mem.1 hs;obtain ⟨h4, h5⟩ := h.sub s h1;obtain ⟨t, h6, h7⟩ := hasT_iff.1 h4;have h8 : t.fc ≠ p := hne t h6 fun j hj => by rw [h7]; exact h2 j hj
  have h9 : s.fc ≠ p := by
   have := congrArg Tc.fc h7;simp only [keyT] at this;rw [← this]; exact h8
  refine ⟨hasT_iff.2 ⟨t, rmN_mem.2 ⟨h6, fun j hj => by rw [h7]; exact h2 j hj⟩, h7⟩, ?_⟩;rw [tog_leave h3 h9]; exact h5
theorem Acc.publish (h : Acc n L nx T S m) (hn : n + 1 ≤ 1000) {c : Cm} (hc : c.fa.Nodup) (hl : c.fa.length ≤ 3) (hf : (findL L c.fc).isSome = true) (ht : 0 ≤ c.ff ∧ c.ff ≤ 3) (hp : m'.Perm (subL S)) : Acc (n + 1) L nx (pubR T c).1 S m' := by
 unfold pubR;split
 ·exact h.mono hn hp
 ·rename_i h1;split
  ·exact h.mono hn hp
  ·rename_i h2;refine ⟨h.tbl, hn, by have := h.tlen; simp only [List.length_append, List.length_cons, List.length_nil]; omega, by have := h.slen; omega, ?_, ?_, ?_, h.up, hp, ?_, ?_⟩
   ·rw [List.map_append, List.nodup_append];refine ⟨h.tnd, by simp, fun a ha b hb => ?_⟩;obtain ⟨t, h3, rfl⟩ := List.mem_map.1 ha;simp only [List.map_cons, List.map_nil, List.mem_singleton] at hb;subst hb;intro e;exact h1 (hasT_iff.2 ⟨t, h3, e⟩)
   ·rw [all_app, List.nodup_append];refine ⟨h.snd, hc, fun a ha b hb e => ?_⟩;subst e;exact h2 (List.any_eq_true.2 ⟨a, hb, src_has.2 ha⟩)
   ·intro t ht;rcases List.mem_append.1 ht with ht | ht
    ·exact h.tss t ht
    ·rw [List.mem_singleton.1 ht]; exact hl
   ·intro t ht';rcases List.mem_append.1 ht' with ht' | ht'
    ·exact h.own t ht'
    ·rw [List.mem_singleton.1 ht'];exact ⟨hf, ht.1, by show c.ff < 4; omega⟩
   ·intro s hs;obtain ⟨h3, h4⟩ := h.sub s hs;exact ⟨hasT_sub (fun t ht _ => List.mem_append_left _ ht) h3, h4⟩
theorem Acc.subscribe (h : Acc n L nx T S m) (hn : n + 1 ≤ 1000) {c : Cm} (hp : m'.Perm (subL (subR L T S c).1)) : Acc (n + 1) L nx T (subR L T S c).1 m' := by
 unfold subR at *
 split at hp
 ·rename_i h1; rw [if_pos h1]; exact h.mono hn hp
 ·rename_i h1;rw [if_neg h1];split at hp
  ·rename_i h2; rw [if_pos h2]; exact h.mono hn hp
  ·rename_i h2;rw [if_neg h2];split at hp
   ·rename_i h3; rw [if_pos h3]; exact h.mono hn hp
   ·rename_i h3;rw [if_neg h3];split at hp
    ·rename_i h4;rw [if_pos h4];exact h.subs hn (by rw [upd_len]; exact Nat.le_refl _) (upd_up h.up (layS_lnk _)) (fun s' hs' => upd_lnk (layS_lnk _) hs') hp
    ·rename_i h4;rw [if_neg h4];split at hp
     ·rename_i h5; rw [if_pos h5]; exact h.mono hn hp
     ·rename_i h5;rw [if_neg h5];have hlen := (ins_perm (newS c) S).length_eq;simp only [List.length_cons] at hlen;refine ⟨h.tbl, hn, by have := h.tlen; omega, by have := h.slen; simp only; omega, h.tnd, h.snd, h.tss, ins_up h.up fun y hy e => h4 (hasS_iff.2 ⟨y, hy, e⟩), hp, h.own, fun s hs => ?_⟩;rcases List.mem_cons.1 ((ins_perm (newS c) S).mem_iff.1 hs) with rfl | hs
      ·simp only [newS];exact ⟨by simpa using h3, by simpa using h2⟩
      ·exact h.sub s hs
theorem Acc.link (h : Acc n L nx T S m) (hn : n + 1 ≤ 1000) {c : Cm} (hp : m'.Perm (subL (lnkR S c).1)) : Acc (n + 1) L nx T (lnkR S c).1 m' := by
 unfold lnkR at *
 split at hp
 ·rename_i h1; rw [if_pos h1]; exact h.mono hn hp
 ·rename_i h1;rw [if_neg h1];split at hp
  ·rename_i h2;rw [if_pos h2];exact h.subs hn (List.length_filter_le _ _) (h.up.sublist List.filter_sublist) (fun s' hs' => ⟨s', (List.mem_filter.1 hs').1, rfl⟩) hp
  ·rename_i h2;rw [if_neg h2];exact h.subs hn (by rw [upd_len]; exact Nat.le_refl _) (upd_up h.up (onS_lnk _)) (fun s' hs' => upd_lnk (onS_lnk _) hs') hp
theorem upd_has (T : List Tk) (k k' : Tc) (b : Bool) : hasT (updT T k b) k' = hasT T k' := by
 rw [Bool.eq_iff_iff, hasT_iff, hasT_iff];have := upd_key T k b;have e : ∀ U : List Tk, (∃ t ∈ U, keyT t = k') ↔ k' ∈ U.map keyT := fun U => by rw [List.mem_map]
 rw [e, e, this]
theorem Acc.track (h : Acc n L nx T S m) (hn : n + 1 ≤ 1000) {c : Cm} (hp : m'.Perm (subL (trkR T S c).2.1)) : Acc (n + 1) L nx (trkR T S c).1 (trkR T S c).2.1 m' := by
 unfold trkR at *
 split at hp
 ·rename_i h1; rw [if_pos h1]; exact h.mono hn hp
 ·rename_i h1;rw [if_neg h1];split at hp
  ·rename_i h2;rw [if_pos h2];have s1 := rm_sub T ⟨c.fc, c.ff⟩;have s2 : (rmS S ⟨c.fc, c.ff⟩).Sublist S := List.filter_sublist;refine ⟨h.tbl, hn, by have := h.tlen; have := s1.length_le; simp only; omega, by have := h.slen; have := s2.length_le; simp only; omega, h.tnd.sublist (s1.map _), h.snd.sublist (all_sub s1), fun t ht => h.tss t (s1.subset ht), h.up.sublist s2, hp, fun t ht => h.own t (s1.subset ht), fun s hs => ?_⟩;obtain ⟨h3, h4⟩ := rmS_mem.1 hs;obtain ⟨h5, h6⟩ := h.sub s h3;refine ⟨hasT_sub (fun t ht e => rm_mem.2 ⟨ht, fun q => h4 ?_⟩) h5, h6⟩;rw [← q, e]; rfl
  ·rename_i h2;rw [if_neg h2];refine ⟨h.tbl, hn, by have := h.tlen; simp only [updT, List.length_map]; omega, by have := h.slen; simp only; omega, by simp only; rw [upd_key]; exact h.tnd, by simp only; rw [upd_all]; exact h.snd, fun t ht => ?_, h.up, hp, fun t ht => ?_, fun s hs => ?_⟩
   ·obtain ⟨u, hu, rfl⟩ := List.mem_map.1 ht;have := h.tss u hu;split
    ·exact this
    ·exact this
   ·obtain ⟨u, hu, rfl⟩ := List.mem_map.1 ht;have := h.own u hu;split
    ·exact this
    ·exact this
   ·simp only;rw [upd_has]; exact h.sub s hs
end
theorem Acc.does {n : Nat} {x : St4} {m m' : List (Tb × Tf)} (h : Acc n x.L x.nx x.T x.S m) (hn1 : n + 1 ≤ 1000) {c : Cm} (hr : c.fm.size ≤ 1000) (hn : c.fp.size ≤ 1000) (hl : c.fa.length ≤ 1000) {v : Int} (hv : gaF c = some v) (hp : m'.Perm (subL (doM x c v).1.S)) :
  Acc (n + 1) (doM x c v).1.L (doM x c v).1.nx (doM x c v).1.T (doM x c v).1.S m' := by
 obtain ⟨w, hw, hval⟩ := check_some c hr hn (by omega);rw [hv] at hw;cases hw;unfold doM at *
 split at hp
 ·rename_i h0; rw [if_pos h0]; exact h.mono hn1 hp
 ·rename_i h0;rw [if_neg h0];have h0 : v = 0 := Classical.byContradiction fun q => h0 q;subst h0;split at hp
  ·rename_i h1; rw [if_pos h1]; exact h.join hn1 hr hn hp
  ·rename_i h1;rw [if_neg h1];split at hp
   ·rename_i h2; rw [if_pos h2]; exact h.mono hn1 hp
   ·rename_i h2;rw [if_neg h2];split at hp
    ·rename_i h3; rw [if_pos h3]; exact h.leave hn1 _ hp
    ·rename_i h3;rw [if_neg h3];split at hp
     ·rename_i h4;rw [if_pos h4];have hc := valid_check (hval rfl) hr hn;rw [if_pos h4, hv] at hc
      have ht : 0 ≤ c.ff ∧ c.ff ≤ 3 := by
       cases hval rfl <;> simp only at h4 ⊢ <;> omega
      exact h.publish hn1 (sources_nd hl hc.symm) (sources_len hc.symm).2 (by cases q : (findL x.L c.fc).isSome with | true => rfl | false => exact absurd q h2) ht hp
     ·rename_i h4;rw [if_neg h4];split at hp
      ·rename_i h5; rw [if_pos h5]; exact h.subscribe hn1 hp
      ·rename_i h5;rw [if_neg h5];split at hp
       ·rename_i h6; rw [if_pos h6]; exact h.link hn1 hp
       ·rename_i h6; rw [if_neg h6]; exact h.track hn1 hp
theorem Acc.new : Acc 0 [] 0 [] [] [] :=
 ⟨Tbl.new, by omega, by simp, by simp, by simp, by simp [allS], (fun _ h => by cases h), .nil, .refl _, (fun _ h => by cases h), (fun _ h => by cases h)⟩
end Go.Proofs
end
