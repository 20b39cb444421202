import Derived.Test.YtoiieebljbhpbaaGreatDoorM08
import Derived.Test.YtoiieebljbhpbaaGreatDoorTy
import Derived.Test.YtoiieebljbhpbaaGreatDoorM19
import Derived.Test.YtoiieebljbhpbaaGreatDoorHa
import Derived.Test.YtoiieebljbhpbaaGreatDoorM07
import Derived.Test.YtoiieebljbhpbaaGreatDoorAv
section
set_option maxRecDepth 100000
set_option maxHeartbeats 4000000
namespace Go.Proofs
open Go.Ab
@[simp] def gah.m (_x0 : Ta) (x1 : ByteArray) : List AObj := [.blk [.lit (.string x1)]]
@[simp] def gah.out (_x0 : Ta) (_x1 : ByteArray) (r : Bool) : Out := { av := .lit (.bool r), M := none }
theorem gah.can (x0 : Ta) (x1 : ByteArray) (r : Bool) (hr : gah x0 x1 = some r) : CallOk Tryz.prog 83 [.agg [.lit (.int .i64 x0.fN), .lit (.string x0.fo), .lit (.string x0.fk)], .ptr 0 0] (gah.m x0 x1) (gah.out x0 x1 r) := by
 unfold gah at hr;have hΓ := (gamL_cons gan.ok (gamL_nil) : GamOk Tryz.prog _);refine cw Tryz.func83 rfl (by kernel_rfl) rfl rfl (by simp) fun _ _ _ => ?_;refine tq hΓ [2] [0] ?_;obtain ⟨r1, h2, hr⟩ := Lc hr;refine tq hΓ [3] [2, 1] ?_ (by simp [h2]; exact rr);obtain rfl := La hr;exact AWp.ret (Lb (by simp))
@[simp] noncomputable def gah.S : Sp
  | [.agg e0, .ptr i0 0], M => (rdB M i0).bind fun c0 => some { av := .lit (.bool ((gah (Ta.dec e0) (decS c0)).getD dflt)), M := none, obl := WeakL e0 (Ta.enc (Ta.dec e0)) ∧ c0 = eTxt (decS c0) ∧ (gah (Ta.dec e0) (decS c0)).isSome = true }
  | _, _ => none
theorem gah.ok : SpecOk Tryz.prog 83 gah.S := by
 intro l M out h;unfold gah.S at h;split at h
 ·rename_i e0 i0;obtain ⟨c0, hM0, h⟩ := bB h;cases h;refine callOk_of fun ho => ?_;obtain ⟨ox0, oc0, hs⟩ := ho;generalize (Ta.dec e0) = x0 at *
  generalize (decS c0) = y0 at *
  subst oc0;obtain ⟨r, hr⟩ := so1 hs;simp only [hr, gd1];have q := Lf (M := M) [i0] (gah.can x0 y0 r hr) (by simp) rfl (ix (by simp [hM0]) ixn);exact callOk_conv q trivial (by simp [into]; exact ox0) (by simp [frameOut]) (by simp only [frameOut, gah.out, Option.getD_some, Option.getD_none]; simp [hM0, set_same])
 ·cases h
@[simp] def ga.m (_x0 : List Ta) (x1c0 : ByteArray) : List AObj := [.blk [.lit (.string x1c0)]]
@[simp] def ga.out (_x0 : List Ta) (_x1c0 : ByteArray) (r : Int) : Out := { av := .lit (.int .i64 r), M := none }
def ga.fin (x0 : List Ta) (x1c0 : ByteArray) (r : Int) (σ : St) : Prop := finK (ga.out x0 x1c0 r) (ga.m x0 x1c0) σ.M (resA Tryz.ty σ.A σ.M Tryz.f123.results.toList)
theorem ga.can (x0 : List Ta) (x1c0 : ByteArray) (r : Int) (hr : ga x0 x1c0 = some r) : CallOk Tryz.prog 123 [.sl (x0.map Ta.enc) .no, .clo 83 [.ptr 0 0]] (ga.m x0 x1c0) (ga.out x0 x1c0 r) := by
 unfold ga at hr;have hΓ := (gamL_cons gah.ok (gamL_nil) : GamOk Tryz.prog _);refine cw Tryz.func123 rfl (by kernel_rfl) rfl rfl (by simp) fun _ _ _ => ?_;refine tq hΓ [] [] ?_;refine AWp.seq ?_;refine tq hΓ [7, 8] [] ?_;refine AWp.loopE (fun (s1 : Int) (γ1 : Unit) => ⟨[⟨7, none, .n (lenL x0)⟩, ⟨8, none, .n s1⟩, ⟨0, none, .sl (x0.map Ta.enc) .no⟩, ⟨1, none, .clo 83 [.ptr 0 0]⟩], [.blk [.s x1c0]]⟩) (fun (v1 : Unit) (γ1a : Unit) => ⟨[], [.blk [.s x1c0]]⟩) (ga.fin x0 x1c0) hr () 1 (by simp) (fun s1 f γ1 hr => ?_) (fun v1 γ1a σ1 m1 hr hc => ?_) (fun _ h => h)
 ·unfold ga.loop1 at hr;refine tq hΓ [9] [] ?_;refine AWp.seq ?_;refine AWp.cnd hr (by simp) (fun h5 hr => ?_) (fun h5 hr => ?_)
  ·refine AWp.skip ?_;refine AWp.seq ?_;refine AWp.block ?_;refine tq hΓ [5] [9] ?_ (by simp [h5]; exact rr);obtain ⟨h6, hr⟩ := Ld hr;obtain ⟨r1, h7, hr⟩ := Lc hr;refine tq hΓ [16] [] ?_ (by simp [h6, h7]; exact rr);refine AWp.cnd hr (by simp) (fun h8 hr => ?_) (fun h8 hr => ?_)
   ·refine tq hΓ [4] [16, 5, 7, 8, 0, 1] ?_ (by simp [h8]; exact rr);refine AWp.ret ?_;obtain rfl := La hr;refine Lr ?_;refine Lb ?_;simp
   ·refine AWp.skip ?_;refine tl hΓ [8] [16, 5] ?_ (by simp [h8]; exact rr);obtain rfl := La hr;exact Lj () 1 (by first | (simp; done) | simp [h5, h6, h7, h8])
  ·refine AWp.exit ?_;obtain rfl := La hr;exact Ll () 1 (by first | (simp; done) | simp [h5])
 ·refine AWp.conv hc ?_;refine tq hΓ [4] [] ?_;obtain rfl := La hr;exact AWp.ret (Lb (by simp))
@[simp] noncomputable def ga.S : Sp
  | [.sl e0 _, .clo 83 [.ptr i0 0]], M => (rdB M i0).bind fun c0 => some { av := .lit (.int .i64 ((ga (e0.map Ta.dec) (decS c0)).getD dflt)), M := none, obl := e0 = (e0.map Ta.dec).map Ta.enc ∧ c0 = eTxt (decS c0) ∧ (ga (e0.map Ta.dec) (decS c0)).isSome = true }
  | _, _ => none
theorem ga.ok : SpecOk Tryz.prog 123 ga.S := by
 intro l M out h;unfold ga.S at h;split at h
 ·rename_i e0 k0 i0;obtain ⟨c0, hM0, h⟩ := bB h;cases h;refine callOk_of fun ho => ?_;obtain ⟨ox0, oc0, hs⟩ := ho;generalize (e0.map Ta.dec) = x0 at *
  generalize (decS c0) = y0 at *
  subst ox0;subst oc0;obtain ⟨r, hr⟩ := so1 hs;simp only [hr, gd1];have q := Lf (M := M) [i0] (ga.can x0 y0 r hr) (by simp) rfl (ix (by simp [hM0]) ixn);exact callOk_conv q trivial (by simp [into]) (by simp [frameOut]) (by simp only [frameOut, ga.out, Option.getD_some, Option.getD_none]; simp [hM0, set_same])
 ·cases h
@[simp] def gc.m (_x0 : List Ta) (x1c0 : ByteArray) : List AObj := [.blk [.lit (.string x1c0)]]
@[simp] def gc.out (_x0 : List Ta) (_x1c0 : ByteArray) (r : Bool) : Out := { av := .lit (.bool r), M := none }
theorem gc.can (x0 : List Ta) (x1c0 : ByteArray) (r : Bool) (hr : gc x0 x1c0 = some r) : CallOk Tryz.prog 82 [.sl (x0.map Ta.enc) .no, .clo 83 [.ptr 0 0]] (gc.m x0 x1c0) (gc.out x0 x1c0 r) := by
 unfold gc at hr;have hΓ := (gamL_cons ga.ok (gamL_nil) : GamOk Tryz.prog _);refine cw Tryz.func82 rfl (by kernel_rfl) rfl rfl (by simp) fun _ _ _ => ?_;refine tq hΓ [] [] ?_;obtain ⟨r1, h2, hr⟩ := Lc hr;refine tq hΓ [4] [0, 1] ?_ (by simp [h2]; exact rr);obtain rfl := La hr;exact AWp.ret (Lb (by simp))
@[simp] noncomputable def gc.S : Sp
  | [.sl e0 _, .clo 83 [.ptr i0 0]], M => (rdB M i0).bind fun c0 => some { av := .lit (.bool ((gc (e0.map Ta.dec) (decS c0)).getD dflt)), M := none, obl := e0 = (e0.map Ta.dec).map Ta.enc ∧ c0 = eTxt (decS c0) ∧ (gc (e0.map Ta.dec) (decS c0)).isSome = true }
  | _, _ => none
theorem gc.ok : SpecOk Tryz.prog 82 gc.S := by
 intro l M out h;unfold gc.S at h;split at h
 ·rename_i e0 k0 i0;obtain ⟨c0, hM0, h⟩ := bB h;cases h;refine callOk_of fun ho => ?_;obtain ⟨ox0, oc0, hs⟩ := ho;generalize (e0.map Ta.dec) = x0 at *
  generalize (decS c0) = y0 at *
  subst ox0;subst oc0;obtain ⟨r, hr⟩ := so1 hs;simp only [hr, gd1];have q := Lf (M := M) [i0] (gc.can x0 y0 r hr) (by simp) rfl (ix (by simp [hM0]) ixn);exact callOk_conv q trivial (by simp [into]) (by simp [frameOut]) (by simp only [frameOut, gc.out, Option.getD_some, Option.getD_none]; simp [hM0, set_same])
 ·cases h
@[simp] def gT.m (x0 : Tq) (_x1 : ByteArray) (_x2 : ByteArray) : List AObj := [.blk [.mp 1, .lit (.int .i64 x0.fh)], .mapo (encM (kI .i64) (vA Ta.enc) x0.fg)]
@[simp] def gT.out (_x0 : Tq) (_x1 : ByteArray) (_x2 : ByteArray) (r : Int × Int × Tq) : Out := { av := .tup [.lit (.int .i64 r.1), .lit (.int .i64 r.2.1)], M := some [.blk [.mp 1, .lit (.int .i64 r.2.2.fh)], .mapo (encM (kI .i64) (vA Ta.enc) r.2.2.fg)] }
def gT.fin (x0 : Tq) (x1 : ByteArray) (x2 : ByteArray) (r : Int × Int × Tq) (σ : St) : Prop := finK (gT.out x0 x1 x2 r) (gT.m x0 x1 x2) σ.M (resA Tryz.ty σ.A σ.M Tryz.f34.results.toList)
theorem gT.can (x0 : Tq) (x1 : ByteArray) (x2 : ByteArray) (r : Int × Int × Tq) (hr : gT x0 x1 x2 = some r) : CallOk Tryz.prog 34 [.ptr 0 0, .lit (.string x1), .lit (.string x2)] (gT.m x0 x1 x2) (gT.out x0 x1 x2 r) := by
 unfold gT at hr;have hΓ := (gamL_cons gE.ok (gamL_cons gN.ok (gamL_cons gB.ok (gamL_cons gc.ok (gamL_nil)))) : GamOk Tryz.prog _);refine cw Tryz.func34 rfl (by kernel_rfl) rfl rfl (by simp) fun _ _ _ => ?_;refine tq hΓ [5] [2] ?_;refine AWp.seq ?_;obtain ⟨r1, h11, hr⟩ := Lc hr;obtain ⟨h12, hr⟩ := Ld hr;refine tq hΓ [17] [] ?_ (by simp [h11, h12]; exact rr);refine AWp.cnd hr (by simp) (fun h13 hr => ?_) (fun h13 hr => ?_)
 ·refine tq hΓ [6, 7] [17, 5, 0, 1] ?_ (by simp [h13]; exact rr);obtain rfl := La hr;exact AWp.ret (Lb (by simp))
 ·refine AWp.skip ?_;obtain ⟨r2, h14, hr⟩ := Lc hr;refine tq hΓ [8] [17] ?_ (by simp [h13, h14]; exact rr);refine AWp.meetF (fun (v1 : Unit) (γ1 : Unit) => ⟨[⟨5, none, .ptr 2 0⟩, ⟨0, none, .ptr 0 0⟩, ⟨1, none, .s x1⟩], [.blk [.mp 1, .n x0.fh], .mapo (encM (kI .i64) (vA Ta.enc) x0.fg), .blk [.s x2]]⟩) (gT.fin x0 x1 x2) hr (fun f hr => ?_) (fun v1 γ1 hr => ?_) (fun _ h => h)
  ·refine AWp.block ?_;obtain ⟨r3, h15, hr⟩ := Lc hr;refine tq hΓ [21] [] ?_ (by simp [h15]; exact rr);refine AWp.cnd hr (by simp) (fun h16 hr => ?_) (fun h16 hr => ?_)
   ·refine tq hΓ [6, 7] [21, 8, 5, 0, 1] ?_ (by simp [h16]; exact rr);refine AWp.ret ?_;obtain rfl := La hr;refine meet_ret ?_;refine Lb ?_;simp
   ·refine AWp.meetF (fun (v2 : Bool) (γ2 : Unit) => ⟨[⟨5, none, .ptr 2 0⟩, ⟨0, none, .ptr 0 0⟩, ⟨1, none, .s x1⟩, ⟨25, none, .b v2⟩], [.blk [.mp 1, .n x0.fh], .mapo (encM (kI .i64) (vA Ta.enc) x0.fg), .blk [.s x2]]⟩) (QRm (gT.fin x0 x1 x2)) hr (fun f hr => ?_) (fun v2 γ2 hr => ?_) (fun _ h => QRm_ret h)
    ·refine tq hΓ [25] [21] ?_ (by simp [h16]; exact rr);refine AWp.cnd hr (by simp) (fun h17 hr => ?_) (fun h17 hr => ?_)
     ·refine AWp.skip ?_;obtain rfl := La hr;exact meet_go () 3 (by first | (simp; done) | simp [h17])
     ·obtain ⟨h18, hr⟩ := Ld hr;refine tq hΓ [25] [8] ?_ (by simp [h17, h18]; exact rr);refine AWp.cnd hr (by simp) (fun h19 hr => ?_) (fun h19 hr => ?_)
      ·refine AWp.skip ?_;obtain rfl := La hr;exact meet_go () 3 (by first | (simp; done) | simp [h19])
      ·refine tl hΓ [25] [] ?_ (by simp [h19]; exact rr);obtain rfl := La hr;exact meet_go () 3 (by first | (simp; done) | simp [h11, h12, h13, h14, h15, h16, h17, h18, h19])
    ·refine AWp.cnd hr (by simp) (fun h20 hr => ?_) (fun h20 hr => ?_)
     ·refine tq hΓ [6, 7] [5, 0, 1, 25] ?_ (by simp [h20]; exact rr);refine AWp.ret ?_;obtain rfl := La hr;refine meet_ret ?_;refine Lb ?_;simp
     ·refine AWp.skip ?_;obtain rfl := La hr;exact meet_go () 3 (by first | (simp; done) | simp [h11, h12, h13, h14, h15, h16, h20])
  ·refine td hΓ [9] [5, 1] [(0, 8), (1, 8), (2, 8), (3, 8), (4, 8), (5, 8), (6, 8)] [(false, []), (false, []), (false, []), (false, []), (false, []), (false, []), (false, []), (true, []), (true, [])] (by simp; exact rr) ?_;refine td hΓ [] [] [] [(false, []), (false, []), (false, []), (false, []), (false, []), (false, []), (false, []), (true, [])] (by simp; exact rr) ?_;refine tq hΓ [] [0] ?_ (by simp; exact rr);refine tq hΓ [6, 7] [9] ?_ (by simp; exact rr);obtain rfl := La hr;exact AWp.ret (Lb (by simp))
@[simp] noncomputable def gT.S : Sp
  | [.ptr i0 0, .lit (.string x1), .lit (.string x2)], M => (rdB M i0).bind fun c0 => (rdM c0 0).bind fun i1 => (rdE M i1).bind fun c1 => (fun (y0 : Tq) => (fun (r : Int × Int × Tq) => some { av := .tup [.lit (.int .i64 (r.1)), .lit (.int .i64 (r.2.1))], M := some ((M.set i0 (.blk [.mp i1, .lit (.int .i64 (r.2.2.fh))])).set i1 (.mapo (encM (kI .i64) (vA Ta.enc) (r.2.2.fg)))), obl := c0 = Tq.enc y0 i1 ∧ c1 = encM (kI .i64) (vA Ta.enc) (y0.fg) ∧ (gT y0 x1 x2).isSome = true ∧ i0 ≠ i1 }) ((gT y0 x1 x2).getD dflt)) (Tq.dec c0 (decM dkI (dvA Ta.dec) c1))
  | _, _ => none
theorem gT.ok : SpecOk Tryz.prog 34 gT.S := by
 intro l M out h;unfold gT.S at h;split at h
 ·rename_i i0 x1 x2;obtain ⟨c0, hM0, h⟩ := bB h;obtain ⟨i1, he1, h⟩ := bM h;obtain ⟨c1, hM1, h⟩ := bE h
  try dsimp only at h
  cases h;refine callOk_of fun ho => ?_;obtain ⟨oc0, oc1, hs, hne0⟩ := ho;generalize (Tq.dec c0 (decM dkI (dvA Ta.dec) c1)) = y0 at *
  subst oc0;subst oc1;obtain ⟨r, hr⟩ := so1 hs;simp only [hr, gd1];have q := Lf (M := M) [i0, i1] (gT.can y0 x1 x2 r hr) (by simp [hne0]) rfl (ix (by simp [hM0, into]) (ix (by simp [hM1]) ixn));exact callOk_conv q trivial (by simp [into]) (by simp [frameOut, into]) (by simp [frameOut, into])
 ·cases h
end Go.Proofs
end
section
namespace Go.Proofs
open Go.Ab Go.Lib
theorem find_app {L : List Pr} {a : Int} {p q : Pr} (h : findL L a = some q) : findL (L ++ [p]) a = some q := by
 unfold findL at *
 rw [List.find?_append, h]; rfl
theorem find_join {L : List Pr} {nx : Int} {r s : ByteArray} {a : Int} {q : Pr} (h : findL L a = some q) : findL (joinL L nx r s).1 a = some q := by
 unfold joinL;split
 ·split
  ·exact h
  ·split
   ·exact h
   ·exact find_app h
 ·exact h
theorem tog_of {L L' : List Pr} (h : ∀ a q, findL L a = some q → findL L' a = some q) {a b : Int} (ht : togL L a b = true) : togL L' a b = true := by
 unfold togL at *
 cases ha : findL L a with
 | none => rw [ha] at ht; simp at ht
 | some p =>
   cases hb : findL L b with
   | none => rw [ha, hb] at ht; simp at ht
   | some q =>
     rw [h a p ha, h b q hb];rw [ha, hb] at ht;exact ht
theorem find_leave {L : List Pr} {n a : Int} (h : a ≠ n) : findL (leaveL L n) a = findL L a := by
 unfold findL leaveL
 induction L with
 | nil => rfl
 | cons p L ih =>
   rw [List.filter_cons];by_cases hp : p.fN = n
   ·have h1 : neI p.fN n = false := neI_f hp;have h2 : eqI p.fN a = false := eqI_f (by omega);rw [h1, List.find?_cons, h2];simpa using ih
   ·have h1 : neI p.fN n = true := neI_t hp;rw [h1];simp only [if_true, List.find?_cons, ih]
theorem tog_leave {L : List Pr} {n a b : Int} (ha : a ≠ n) (hb : b ≠ n) : togL (leaveL L n) a b = togL L a b := by
 unfold togL;rw [find_leave ha, find_leave hb]
theorem ltSb_lnk {a b a' b' : Sb} (h1 : lnk a = lnk a') (h2 : lnk b = lnk b') : ltSb a b = ltSb a' b' := by
 simp only [lnk, Tb.mk.injEq, Td.mk.injEq] at h1 h2;unfold ltSb;rw [h1.1, h1.2.1, h1.2.2, h2.1, h2.2.1, h2.2.2]
theorem upd_lnk {S : List Sb} {l : Tb} {f : Sb → Sb} (hf : ∀ s, lnk (f s) = lnk s) {s' : Sb} (h : s' ∈ updS S l f) : ∃ s ∈ S, lnk s' = lnk s := by
 obtain ⟨s, hs, rfl⟩ := List.mem_map.1 h;refine ⟨s, hs, ?_⟩;split
 ·exact hf s
 ·rfl
theorem upd_up {S : List Sb} (hu : S.Pairwise fun a b => ltSb a b = true) {l : Tb} {f : Sb → Sb} (hf : ∀ s, lnk (f s) = lnk s) : (updS S l f).Pairwise fun a b => ltSb a b = true := by
 unfold updS;rw [List.pairwise_map]
 have key : ∀ s : Sb, lnk (if Tb.eq l (lnk s) = true then f s else s) = lnk s := fun s => by
  split
  ·exact hf s
  ·rfl
 exact hu.imp fun {a b} h => by rw [ltSb_lnk (key a) (key b)]; exact h
theorem upd_len (S : List Sb) (l : Tb) (f : Sb → Sb) : (updS S l f).length = S.length := by simp [updS]
section
variable {n : Nat} {L : List Pr} {nx : Int} {T : List Tk} {S : List Sb} {m m' : List (Tb × Tf)}
theorem Acc.mono (h : Acc n L nx T S m) (hn : n + 1 ≤ 1000) (hp : m'.Perm (subL S)) : Acc (n + 1) L nx T S m' :=
 ⟨h.tbl, hn, by have := h.tlen; omega, by have := h.slen; omega, h.tnd, h.snd, h.tss, h.up, hp, h.own, h.sub⟩
theorem Acc.subs (h : Acc n L nx T S m) (hn : n + 1 ≤ 1000) {S' : List Sb} (hl : S'.length ≤ S.length) (hu : S'.Pairwise fun a b => ltSb a b = true) (hs : ∀ s' ∈ S', ∃ s ∈ S, lnk s' = lnk s) (hp : m'.Perm (subL S')) : Acc (n + 1) L nx T S' m' :=
 ⟨h.tbl, hn, by have := h.tlen; omega, by have := h.slen; omega, h.tnd, h.snd, h.tss, hu, hp, h.own, fun s' hs' => by
  obtain ⟨s, h1, h2⟩ := hs s' hs';simp only [lnk, Tb.mk.injEq, Td.mk.injEq] at h2;rw [h2.1, h2.2.1, h2.2.2];exact h.sub s h1⟩
theorem hasT_sub {T T' : List Tk} {k : Td} (h : ∀ t ∈ T, keyT t = k → t ∈ T') (ht : hasT T k = true) : hasT T' k = true := by
 obtain ⟨t, h1, h2⟩ := hasT_iff.1 ht;exact hasT_iff.2 ⟨t, h t h1 h2, h2⟩
theorem Acc.join (h : Acc n L nx T S m) (hn : n + 1 ≤ 1000) {r s : ByteArray} (hr : r.size ≤ 1000) (hs : s.size ≤ 1000) (hp : m'.Perm (subL S)) : Acc (n + 1) (joinL L nx r s).1 (joinL L nx r s).2.1 T S m' :=
 ⟨h.tbl.join hr hs, hn, by have := h.tlen; omega, by have := h.slen; omega, h.tnd, h.snd, h.tss, h.up, hp, fun t ht => by
  obtain ⟨h1, h2⟩ := h.own t ht;obtain ⟨q, hq⟩ := Option.isSome_iff_exists.1 h1;rw [find_join hq];exact ⟨rfl, h2⟩, fun x hx => ⟨(h.sub x hx).1, tog_of (fun a q hq => find_join hq) (h.sub x hx).2⟩⟩
theorem Acc.leave (h : Acc n L nx T S m) (hn : n + 1 ≤ 1000) (p : Int) (hp : m'.Perm (subL (lvS S p))) : Acc (n + 1) (leaveL L p) nx (rmN T p 4) (lvS S p) m' := by
 have s1 := rmN_sub T p 4;have s2 := lvS_sub S p
 have hne : ∀ t ∈ T, (∀ j : Nat, j < 4 → keyT t ≠ ⟨p, (j : Int)⟩) → t.fc ≠ p := fun t ht hj e => by
  obtain ⟨_, h2, h3⟩ := h.own t ht;refine hj t.fN.toNat (by omega) ?_;unfold keyT;rw [e, Int.toNat_of_nonneg h2]
 refine ⟨h.tbl.leave p, hn, by have := h.tlen; have := s1.length_le; omega, by have := h.slen; have := s2.length_le; omega, h.tnd.sublist (s1.map _), h.snd.sublist (all_sub s1), fun t ht => h.tss t (s1.subset ht), h.up.sublist s2, hp, fun t ht => ?_, fun s hs => ?_⟩
 ·obtain ⟨h1, h2⟩ := rmN_mem.1 ht;rw [find_leave (hne t h1 h2)];exact h.own t h1
 ·obtain ⟨h1, h2, h3⟩ := lvS_mem.1 hs;obtain ⟨h4, h5⟩ := h.sub s h1;obtain ⟨t, h6, h7⟩ := hasT_iff.1 h4;have h8 : t.fc ≠ p := hne t h6 fun j hj => by rw [h7]; exact h2 j hj
  have h9 : s.fc ≠ p := by
   have := congrArg Td.fc h7;simp only [keyT] at this;rw [← this]; exact h8
  refine ⟨hasT_iff.2 ⟨t, rmN_mem.2 ⟨h6, fun j hj => by rw [h7]; exact h2 j hj⟩, h7⟩, ?_⟩;rw [tog_leave h3 h9]; exact h5
theorem Acc.publish (h : Acc n L nx T S m) (hn : n + 1 ≤ 1000) {c : Cm} (hc : c.fb.Nodup) (hl : c.fb.length ≤ 3) (hf : (findL L c.fc).isSome = true) (ht : 0 ≤ c.ff ∧ c.ff ≤ 3) (hp : m'.Perm (subL S)) : Acc (n + 1) L nx (pubR T c).1 S m' := by
 unfold pubR;split
 ·exact h.mono hn hp
 ·rename_i h1;split
  ·exact h.mono hn hp
  ·rename_i h2;refine ⟨h.tbl, hn, by have := h.tlen; simp only [List.length_append, List.length_cons, List.length_nil]; omega, by have := h.slen; omega, ?_, ?_, ?_, h.up, hp, ?_, ?_⟩
   ·rw [List.map_append, List.nodup_append];refine ⟨h.tnd, by simp, fun a ha b hb => ?_⟩;obtain ⟨t, h3, rfl⟩ := List.mem_map.1 ha;simp only [List.map_cons, List.map_nil, List.mem_singleton] at hb;subst hb;intro e;exact h1 (hasT_iff.2 ⟨t, h3, e⟩)
   ·rw [all_app, List.nodup_append];refine ⟨h.snd, hc, fun a ha b hb e => ?_⟩;subst e;exact h2 (List.any_eq_true.2 ⟨a, hb, src_has.2 ha⟩)
   ·intro t ht;rcases List.mem_append.1 ht with ht | ht
    ·exact h.tss t ht
    ·rw [List.mem_singleton.1 ht]; exact hl
   ·intro t ht';rcases List.mem_append.1 ht' with ht' | ht'
    ·exact h.own t ht'
    ·rw [List.mem_singleton.1 ht'];exact ⟨hf, ht.1, by show c.ff < 4; omega⟩
   ·intro s hs;obtain ⟨h3, h4⟩ := h.sub s hs;exact ⟨hasT_sub (fun t ht _ => List.mem_append_left _ ht) h3, h4⟩
theorem Acc.subscribe (h : Acc n L nx T S m) (hn : n + 1 ≤ 1000) {c : Cm} (hp : m'.Perm (subL (subR L T S c).1)) : Acc (n + 1) L nx T (subR L T S c).1 m' := by
 unfold subR at *
 split at hp
 ·rename_i h1; rw [if_pos h1]; exact h.mono hn hp
 ·rename_i h1;rw [if_neg h1];split at hp
  ·rename_i h2; rw [if_pos h2]; exact h.mono hn hp
  ·rename_i h2;rw [if_neg h2];split at hp
   ·rename_i h3; rw [if_pos h3]; exact h.mono hn hp
   ·rename_i h3;rw [if_neg h3];split at hp
    ·rename_i h4;rw [if_pos h4];exact h.subs hn (by rw [upd_len]; exact Nat.le_refl _) (upd_up h.up (layS_lnk _)) (fun s' hs' => upd_lnk (layS_lnk _) hs') hp
    ·rename_i h4;rw [if_neg h4];split at hp
     ·rename_i h5; rw [if_pos h5]; exact h.mono hn hp
     ·rename_i h5;rw [if_neg h5];have hlen := (ins_perm (newS c) S).length_eq;simp only [List.length_cons] at hlen;refine ⟨h.tbl, hn, by have := h.tlen; omega, by have := h.slen; simp only; omega, h.tnd, h.snd, h.tss, ins_up h.up fun y hy e => h4 (hasS_iff.2 ⟨y, hy, e⟩), hp, h.own, fun s hs => ?_⟩;rcases List.mem_cons.1 ((ins_perm (newS c) S).mem_iff.1 hs) with rfl | hs
      ·simp only [newS];exact ⟨by simpa using h3, by simpa using h2⟩
      ·exact h.sub s hs
theorem Acc.link (h : Acc n L nx T S m) (hn : n + 1 ≤ 1000) {c : Cm} (hp : m'.Perm (subL (lnkR S c).1)) : Acc (n + 1) L nx T (lnkR S c).1 m' := by
 unfold lnkR at *
 split at hp
 ·rename_i h1; rw [if_pos h1]; exact h.mono hn hp
 ·rename_i h1;rw [if_neg h1];split at hp
  ·rename_i h2;rw [if_pos h2];exact h.subs hn (List.length_filter_le _ _) (h.up.sublist List.filter_sublist) (fun s' hs' => ⟨s', (List.mem_filter.1 hs').1, rfl⟩) hp
  ·rename_i h2;rw [if_neg h2];exact h.subs hn (by rw [upd_len]; exact Nat.le_refl _) (upd_up h.up (onS_lnk _)) (fun s' hs' => upd_lnk (onS_lnk _) hs') hp
theorem upd_has (T : List Tk) (k k' : Td) (b : Bool) : hasT (updT T k b) k' = hasT T k' := by
 rw [Bool.eq_iff_iff, hasT_iff, hasT_iff];have := upd_key T k b;have e : ∀ U : List Tk, (∃ t ∈ U, keyT t = k') ↔ k' ∈ U.map keyT := fun U => by rw [List.mem_map]
 rw [e, e, this]
theorem Acc.track (h : Acc n L nx T S m) (hn : n + 1 ≤ 1000) {c : Cm} (hp : m'.Perm (subL (trkR T S c).2.1)) : Acc (n + 1) L nx (trkR T S c).1 (trkR T S c).2.1 m' := by
 unfold trkR at *
 split at hp
 ·rename_i h1; rw [if_pos h1]; exact h.mono hn hp
 ·rename_i h1;rw [if_neg h1];split at hp
  ·rename_i h2;rw [if_pos h2];have s1 := rm_sub T ⟨c.fc, c.ff⟩;have s2 : (rmS S ⟨c.fc, c.ff⟩).Sublist S := List.filter_sublist;refine ⟨h.tbl, hn, by have := h.tlen; have := s1.length_le; simp only; omega, by have := h.slen; have := s2.length_le; simp only; omega, h.tnd.sublist (s1.map _), h.snd.sublist (all_sub s1), fun t ht => h.tss t (s1.subset ht), h.up.sublist s2, hp, fun t ht => h.own t (s1.subset ht), fun s hs => ?_⟩;obtain ⟨h3, h4⟩ := rmS_mem.1 hs;obtain ⟨h5, h6⟩ := h.sub s h3;refine ⟨hasT_sub (fun t ht e => rm_mem.2 ⟨ht, fun q => h4 ?_⟩) h5, h6⟩;rw [← q, e]; rfl
  ·rename_i h2;rw [if_neg h2];refine ⟨h.tbl, hn, by have := h.tlen; simp only [updT, List.length_map]; omega, by have := h.slen; simp only; omega, by simp only; rw [upd_key]; exact h.tnd, by simp only; rw [upd_all]; exact h.snd, fun t ht => ?_, h.up, hp, fun t ht => ?_, fun s hs => ?_⟩
   ·obtain ⟨u, hu, rfl⟩ := List.mem_map.1 ht;have := h.tss u hu;split
    ·exact this
    ·exact this
   ·obtain ⟨u, hu, rfl⟩ := List.mem_map.1 ht;have := h.own u hu;split
    ·exact this
    ·exact this
   ·simp only;rw [upd_has]; exact h.sub s hs
end
theorem Acc.does {n : Nat} {x : St4} {m m' : List (Tb × Tf)} (h : Acc n x.L x.nx x.T x.S m) (hn1 : n + 1 ≤ 1000) {c : Cm} (hr : c.fk.size ≤ 1000) (hn : c.fo.size ≤ 1000) (hl : c.fb.length ≤ 1000) {v : Int} (hv : gX c = some v) (hp : m'.Perm (subL (doM x c v).1.S)) :
  Acc (n + 1) (doM x c v).1.L (doM x c v).1.nx (doM x c v).1.T (doM x c v).1.S m' := by
 obtain ⟨w, hw, hval⟩ := check_some c hr hn (by omega);rw [hv] at hw;cases hw;unfold doM at *
 split at hp
 ·rename_i h0; rw [if_pos h0]; exact h.mono hn1 hp
 ·rename_i h0;rw [if_neg h0];have h0 : v = 0 := Classical.byContradiction fun q => h0 q;subst h0;split at hp
  ·rename_i h1; rw [if_pos h1]; exact h.join hn1 hr hn hp
  ·rename_i h1;rw [if_neg h1];split at hp
   ·rename_i h2; rw [if_pos h2]; exact h.mono hn1 hp
   ·rename_i h2;rw [if_neg h2];split at hp
    ·rename_i h3; rw [if_pos h3]; exact h.leave hn1 _ hp
    ·rename_i h3;rw [if_neg h3];split at hp
     ·rename_i h4;rw [if_pos h4];have hc := valid_check (hval rfl) hr hn;rw [if_pos h4, hv] at hc
      have ht : 0 ≤ c.ff ∧ c.ff ≤ 3 := by
       cases hval rfl <;> simp only at h4 ⊢ <;> omega
      exact h.publish hn1 (sources_nd hl hc.symm) (sources_len hc.symm).2 (by cases q : (findL x.L c.fc).isSome with | true => rfl | false => exact absurd q h2) ht hp
     ·rename_i h4;rw [if_neg h4];split at hp
      ·rename_i h5; rw [if_pos h5]; exact h.subscribe hn1 hp
      ·rename_i h5;rw [if_neg h5];split at hp
       ·rename_i h6; rw [if_pos h6]; exact h.link hn1 hp
       ·rename_i h6; rw [if_neg h6]; exact h.track hn1 hp
theorem Acc.new : Acc 0 [] 0 [] [] [] :=
 ⟨Tbl.new, by omega, by simp, by simp, by simp, by simp [allS], (fun _ h => by cases h), .nil, .refl _, (fun _ h => by cases h), (fun _ h => by cases h)⟩
end Go.Proofs
end
