import Derived.Test.YtoiieebljbhpbaaGreatDoorM17
import Derived.Test.YtoiieebljbhpbaaGreatDoorM09
import Derived.Test.YtoiieebljbhpbaaGreatDoorM04
import Derived.Test.YtoiieebljbhpbaaGreatDoorM08
import Derived.Test.YtoiieebljbhpbaaGreatDoorTy
import Derived.Test.YtoiieebljbhpbaaGreatDoorM14
import Derived.Test.YtoiieebljbhpbaaGreatDoorM19
import Derived.Test.YtoiieebljbhpbaaGreatDoorM11
import Derived.Test.YtoiieebljbhpbaaGreatDoorM16
import Derived.Test.YtoiieebljbhpbaaGreatDoorM10
import Derived.Test.YtoiieebljbhpbaaGreatDoorM20
import Derived.Test.YtoiieebljbhpbaaGreatDoorTs
import Derived.Test.YtoiieebljbhpbaaGreatDoorM03
section
set_option maxRecDepth 100000
namespace Go.Proofs
open Go.Ab Go.Sort Go.Lib
def toL3 (x : Tb) : L3 := (x.fu, x.fOf.fc, x.fOf.ff)
theorem c3_toL3 (x : Tb) : c3 (toL3 x) = x.enc := rfl
theorem keys3_encM (m : List (Tb × Tf)) : keys3 (qas (vA Tb.enc) (vA Tf.enc) m) = (keysM m).map toL3 := by
 simp only [keys3, qas, keysM, List.map_map];exact List.map_congr_left fun e _ => rfl
theorem le3_toL3 (x y : Tb) : leLk x y = Go.Ab.le3 (toL3 x) (toL3 y) := by
 refine Bool.eq_iff_iff.2 ?_;rw [Go.Ab.le3, lt3];constructor
 ·intro h;have h := of_decide_eq_true h;rw [Bool.not_eq_true'];refine decide_eq_false ?_;simp only [toL3];omega
 ·intro h;refine decide_eq_true ?_;rw [Bool.not_eq_true'] at h;have h := of_decide_eq_false h;simp only [toL3] at h;omega
theorem srt3_toL3 (l : List Tb) : srt3 (l.map toL3) = (sortLk l).map toL3 :=
 (List.map_mergeSort (fun a _ b _ => le3_toL3 a b)).symm
@[simp] noncomputable def sortedLT (k c : Nat) : Sp
  | [.fn k' [.mp i], .lit v], M => (rdE M i).bind fun es => some { av := .sl ((sortLk (keysM (decM (dvA Tb.dec) (dvA Tf.dec) es))).map Tb.enc) .no, obl := k' = k ∧ v = .func (.func c) #[] #[] ∧ es = qas (vA Tb.enc) (vA Tf.enc) (decM (dvA Tb.dec) (dvA Tf.dec) es) ∧ Keys3B (keysM (decM (dvA Tb.dec) (dvA Tf.dec) es)) }
  | _, _ => none
theorem libKeys.gMapsKeysMapAccessLinkAccessSubAccessLinkAccessSub.ok : qap Tryz.prog 43 (keysLS 93) := keysL_ok
theorem libSorted.gSlicesSortedFuncAccessLink.ok : qap Tryz.prog 42 (sortedLT 93 44) := by
 intro l M out h;unfold sortedLT at h;split at h
 ·rename_i k' i v;obtain ⟨es, hM, h⟩ := bE h;cases h;intro g vs hM' sm hr ho;obtain ⟨rfl, rfl, he, hb⟩ := ho;generalize decM (dvA Tb.dec) (dvA Tf.dec) es = m at *
  subst he
  have hk : Keys3 (qas (vA Tb.enc) (vA Tf.enc) m) := fun e he => by
   obtain ⟨q, _, rfl⟩ := List.mem_map.1 he;rfl
  have hz : Keys3Z (keys3 (qas (vA Tb.enc) (vA Tf.enc) m)) := by
   rw [keys3_encM]; simpa [Keys3Z, Keys3B] using hb
  have q := sortedL_ok [.fn 93 [.mp i], .lit (.func (.func 44) #[] #[])] M { av := .sl ((srt3 (keys3 (qas (vA Tb.enc) (vA Tf.enc) m))).map c3) .no, obl := Keys3 (qas (vA Tb.enc) (vA Tf.enc) m) ∧ Keys3Z (keys3 (qas (vA Tb.enc) (vA Tf.enc) m)) ∧ 93 = 93 ∧ Value.func (.func 44) #[] #[] = Value.func (.func 44) #[] #[] } (by simp only [sortedLS, hM]) g vs hM' sm hr ⟨hk, hz, rfl, rfl⟩
  have e : (srt3 (keys3 (qas (vA Tb.enc) (vA Tf.enc) m))).map c3 = (sortLk (keysM m)).map Tb.enc := by
   rw [keys3_encM, srt3_toL3, List.map_map];exact List.map_congr_left fun x _ => c3_toL3 x
  rw [e] at q;exact q
 ·cases h
end Go.Proofs
end
section
set_option maxRecDepth 100000
set_option maxHeartbeats 4000000
namespace Go.Proofs
open Go.Ab
@[simp] def gab.m (_x0 : Ta) (x1 : ByteArray) : List qau := [.blk [.lit (.string x1)]]
@[simp] def gab.out (_x0 : Ta) (_x1 : ByteArray) (r : Bool) : Out := { av := .lit (.bool r), M := none }
theorem gab.can (x0 : Ta) (x1 : ByteArray) (r : Bool) (hr : gab x0 x1 = some r) : qao Tryz.prog 83 [.agg [.lit (.int .i64 x0.fN), .lit (.string x0.fp), .lit (.string x0.fm)], .ptr 0 0] (gab.m x0 x1) (gab.out x0 x1 r) := by
 unfold gab at hr;have hΓ := (qab gag.ok (qae) : qbc Tryz.prog _);refine cw Tryz.func83 rfl (by kernel_rfl) rfl rfl (by simp) fun _ _ _ => ?_;refine tq hΓ [2] [0] ?_;obtain ⟨r1, h2, hr⟩ := Lb hr;refine tq hΓ [3] [2, 1] ?_ (by simp [h2]; exact rr);obtain rfl := La hr;exact AWp.ret (Ld (by simp))
@[simp] noncomputable def gab.S : Sp
  | [.agg e0, .ptr i0 0], M => (rdB M i0).bind fun c0 => some { av := .lit (.bool ((gab (Ta.dec e0) (decS c0)).getD dflt)), M := none, obl := WeakL e0 (Ta.enc (Ta.dec e0)) ∧ c0 = eTxt (decS c0) ∧ (gab (Ta.dec e0) (decS c0)).isSome = true }
  | _, _ => none
theorem gab.ok : qap Tryz.prog 83 gab.S := by
 intro l M out h;unfold gab.S at h;split at h
 ·rename_i e0 i0;obtain ⟨c0, hM0, h⟩ := bB h;cases h;refine qad fun ho => ?_;obtain ⟨ox0, oc0, hs⟩ := ho;generalize (Ta.dec e0) = x0 at *
  generalize (decS c0) = y0 at *
  subst oc0;obtain ⟨r, hr⟩ := so1 hs;simp only [hr, gd1];have q := Lf (M := M) [i0] (gab.can x0 y0 r hr) (by simp) rfl (ix (by simp [hM0]) ixn);exact qac q trivial (by simp [into]; exact ox0) (by simp [qaa]) (by simp only [qaa, gab.out, Option.getD_some, Option.getD_none]; simp [hM0, set_same])
 ·cases h
@[simp] def ga.m (_x0 : List Ta) (x1c0 : ByteArray) : List qau := [.blk [.lit (.string x1c0)]]
@[simp] def ga.out (_x0 : List Ta) (_x1c0 : ByteArray) (r : Int) : Out := { av := .lit (.int .i64 r), M := none }
def ga.fin (x0 : List Ta) (x1c0 : ByteArray) (r : Int) (σ : St) : Prop := finK (ga.out x0 x1c0 r) (ga.m x0 x1c0) σ.M (resA Tryz.ty σ.A σ.M Tryz.f123.results.toList)
theorem ga.can (x0 : List Ta) (x1c0 : ByteArray) (r : Int) (hr : ga x0 x1c0 = some r) : qao Tryz.prog 123 [.sl (x0.map Ta.enc) .no, .clo 83 [.ptr 0 0]] (ga.m x0 x1c0) (ga.out x0 x1c0 r) := by
 unfold ga at hr;have hΓ := (qab gab.ok (qae) : qbc Tryz.prog _);refine cw Tryz.func123 rfl (by kernel_rfl) rfl rfl (by simp) fun _ _ _ => ?_;refine tq hΓ [] [] ?_;refine AWp.seq ?_;refine tq hΓ [7, 8] [] ?_;refine AWp.loopE (fun (s1 : Int) (γ1 : Unit) => ⟨[⟨7, none, .n (qat x0)⟩, ⟨8, none, .n s1⟩, ⟨0, none, .sl (x0.map Ta.enc) .no⟩, ⟨1, none, .clo 83 [.ptr 0 0]⟩], [.blk [.s x1c0]]⟩) (fun (v1 : Unit) (γ1a : Unit) => ⟨[], [.blk [.s x1c0]]⟩) (ga.fin x0 x1c0) hr () 1 (by simp) (fun s1 f γ1 hr => ?_) (fun v1 γ1a σ1 m1 hr hc => ?_) (fun _ h => h)
 ·unfold ga.loop1 at hr;refine tq hΓ [9] [] ?_;refine AWp.seq ?_;refine AWp.cnd hr (by simp) (fun h5 hr => ?_) (fun h5 hr => ?_)
  ·refine AWp.skip ?_;refine AWp.seq ?_;refine AWp.block ?_;refine tq hΓ [5] [9] ?_ (by simp [h5]; exact rr);obtain ⟨h6, hr⟩ := Lg hr;obtain ⟨r1, h7, hr⟩ := Lb hr;refine tq hΓ [16] [] ?_ (by simp [h6, h7]; exact rr);refine AWp.cnd hr (by simp) (fun h8 hr => ?_) (fun h8 hr => ?_)
   ·refine tq hΓ [4] [16, 5, 7, 8, 0, 1] ?_ (by simp [h8]; exact rr);refine AWp.ret ?_;obtain rfl := La hr;refine round_ret ?_;refine Ld ?_;simp
   ·refine AWp.skip ?_;refine tl hΓ [8] [16, 5] ?_ (by simp [h8]; exact rr);obtain rfl := La hr;exact Lq () 1 (by first | (simp; done) | simp [h5, h6, h7, h8])
  ·refine AWp.exit ?_;obtain rfl := La hr;exact Ln () 1 (by first | (simp; done) | simp [h5])
 ·refine AWp.conv hc ?_;refine tq hΓ [4] [] ?_;obtain rfl := La hr;exact AWp.ret (Ld (by simp))
@[simp] noncomputable def ga.S : Sp
  | [.sl e0 _, .clo 83 [.ptr i0 0]], M => (rdB M i0).bind fun c0 => some { av := .lit (.int .i64 ((ga (e0.map Ta.dec) (decS c0)).getD dflt)), M := none, obl := e0 = (e0.map Ta.dec).map Ta.enc ∧ c0 = eTxt (decS c0) ∧ (ga (e0.map Ta.dec) (decS c0)).isSome = true }
  | _, _ => none
theorem ga.ok : qap Tryz.prog 123 ga.S := by
 intro l M out h;unfold ga.S at h;split at h
 ·rename_i e0 k0 i0;obtain ⟨c0, hM0, h⟩ := bB h;cases h;refine qad fun ho => ?_;obtain ⟨ox0, oc0, hs⟩ := ho;generalize (e0.map Ta.dec) = x0 at *
  generalize (decS c0) = y0 at *
  subst ox0;subst oc0;obtain ⟨r, hr⟩ := so1 hs;simp only [hr, gd1];have q := Lf (M := M) [i0] (ga.can x0 y0 r hr) (by simp) rfl (ix (by simp [hM0]) ixn);exact qac q trivial (by simp [into]) (by simp [qaa]) (by simp only [qaa, ga.out, Option.getD_some, Option.getD_none]; simp [hM0, set_same])
 ·cases h
@[simp] def gc.m (_x0 : List Ta) (x1c0 : ByteArray) : List qau := [.blk [.lit (.string x1c0)]]
@[simp] def gc.out (_x0 : List Ta) (_x1c0 : ByteArray) (r : Bool) : Out := { av := .lit (.bool r), M := none }
theorem gc.can (x0 : List Ta) (x1c0 : ByteArray) (r : Bool) (hr : gc x0 x1c0 = some r) : qao Tryz.prog 82 [.sl (x0.map Ta.enc) .no, .clo 83 [.ptr 0 0]] (gc.m x0 x1c0) (gc.out x0 x1c0 r) := by
 unfold gc at hr;have hΓ := (qab ga.ok (qae) : qbc Tryz.prog _);refine cw Tryz.func82 rfl (by kernel_rfl) rfl rfl (by simp) fun _ _ _ => ?_;refine tq hΓ [] [] ?_;obtain ⟨r1, h2, hr⟩ := Lb hr;refine tq hΓ [4] [0, 1] ?_ (by simp [h2]; exact rr);obtain rfl := La hr;exact AWp.ret (Ld (by simp))
@[simp] noncomputable def gc.S : Sp
  | [.sl e0 _, .clo 83 [.ptr i0 0]], M => (rdB M i0).bind fun c0 => some { av := .lit (.bool ((gc (e0.map Ta.dec) (decS c0)).getD dflt)), M := none, obl := e0 = (e0.map Ta.dec).map Ta.enc ∧ c0 = eTxt (decS c0) ∧ (gc (e0.map Ta.dec) (decS c0)).isSome = true }
  | _, _ => none
theorem gc.ok : qap Tryz.prog 82 gc.S := by
 intro l M out h;unfold gc.S at h;split at h
 ·rename_i e0 k0 i0;obtain ⟨c0, hM0, h⟩ := bB h;cases h;refine qad fun ho => ?_;obtain ⟨ox0, oc0, hs⟩ := ho;generalize (e0.map Ta.dec) = x0 at *
  generalize (decS c0) = y0 at *
  subst ox0;subst oc0;obtain ⟨r, hr⟩ := so1 hs;simp only [hr, gd1];have q := Lf (M := M) [i0] (gc.can x0 y0 r hr) (by simp) rfl (ix (by simp [hM0]) ixn);exact qac q trivial (by simp [into]) (by simp [qaa]) (by simp only [qaa, gc.out, Option.getD_some, Option.getD_none]; simp [hM0, set_same])
 ·cases h
@[simp] def gP.m (x0 : Tp) (_x1 : ByteArray) (_x2 : ByteArray) : List qau := [.blk [.mp 1, .lit (.int .i64 x0.fj)], .mapo (qas (kI .i64) (vA Ta.enc) x0.fe)]
@[simp] def gP.out (_x0 : Tp) (_x1 : ByteArray) (_x2 : ByteArray) (r : Int × Int × Tp) : Out := { av := .tup [.lit (.int .i64 r.1), .lit (.int .i64 r.2.1)], M := some [.blk [.mp 1, .lit (.int .i64 r.2.2.fj)], .mapo (qas (kI .i64) (vA Ta.enc) r.2.2.fe)] }
def gP.fin (x0 : Tp) (x1 : ByteArray) (x2 : ByteArray) (r : Int × Int × Tp) (σ : St) : Prop := finK (gP.out x0 x1 x2 r) (gP.m x0 x1 x2) σ.M (resA Tryz.ty σ.A σ.M Tryz.f34.results.toList)
theorem gP.can (x0 : Tp) (x1 : ByteArray) (x2 : ByteArray) (r : Int × Int × Tp) (hr : gP x0 x1 x2 = some r) : qao Tryz.prog 34 [.ptr 0 0, .lit (.string x1), .lit (.string x2)] (gP.m x0 x1 x2) (gP.out x0 x1 x2 r) := by
 unfold gP at hr;have hΓ := (qab gG.ok (qab gS.ok (qab gE.ok (qab gc.ok (qae)))) : qbc Tryz.prog _);refine cw Tryz.func34 rfl (by kernel_rfl) rfl rfl (by simp) fun _ _ _ => ?_;refine tq hΓ [5] [2] ?_;refine AWp.seq ?_;obtain ⟨r1, h11, hr⟩ := Lb hr;obtain ⟨h12, hr⟩ := Lg hr;refine tq hΓ [17] [] ?_ (by simp [h11, h12]; exact rr);refine AWp.cnd hr (by simp) (fun h13 hr => ?_) (fun h13 hr => ?_)
 ·refine tq hΓ [6, 7] [17, 5, 0, 1] ?_ (by simp [h13]; exact rr);obtain rfl := La hr;exact AWp.ret (Ld (by simp))
 ·refine AWp.skip ?_;obtain ⟨r2, h14, hr⟩ := Lb hr;refine tq hΓ [8] [17] ?_ (by simp [h13, h14]; exact rr);refine AWp.meetF (fun (v1 : Unit) (γ1 : Unit) => ⟨[⟨5, none, .ptr 2 0⟩, ⟨0, none, .ptr 0 0⟩, ⟨1, none, .s x1⟩], [.blk [.mp 1, .n x0.fj], .mapo (qas (kI .i64) (vA Ta.enc) x0.fe), .blk [.s x2]]⟩) (gP.fin x0 x1 x2) hr (fun f hr => ?_) (fun v1 γ1 hr => ?_) (fun _ h => h)
  ·refine AWp.block ?_;obtain ⟨r3, h15, hr⟩ := Lb hr;refine tq hΓ [21] [] ?_ (by simp [h15]; exact rr);refine AWp.cnd hr (by simp) (fun h16 hr => ?_) (fun h16 hr => ?_)
   ·refine tq hΓ [6, 7] [21, 8, 5, 0, 1] ?_ (by simp [h16]; exact rr);refine AWp.ret ?_;obtain rfl := La hr;refine meet_ret ?_;refine Ld ?_;simp
   ·refine AWp.meetF (fun (v2 : Bool) (γ2 : Unit) => ⟨[⟨5, none, .ptr 2 0⟩, ⟨0, none, .ptr 0 0⟩, ⟨1, none, .s x1⟩, ⟨25, none, .b v2⟩], [.blk [.mp 1, .n x0.fj], .mapo (qas (kI .i64) (vA Ta.enc) x0.fe), .blk [.s x2]]⟩) (QRm (gP.fin x0 x1 x2)) hr (fun f hr => ?_) (fun v2 γ2 hr => ?_) (fun _ h => QRm_ret h)
    ·refine tq hΓ [25] [21] ?_ (by simp [h16]; exact rr);refine AWp.cnd hr (by simp) (fun h17 hr => ?_) (fun h17 hr => ?_)
     ·refine AWp.skip ?_;obtain rfl := La hr;exact Lp () 3 (by first | (simp; done) | simp [h17])
     ·obtain ⟨h18, hr⟩ := Lg hr;refine tq hΓ [25] [8] ?_ (by simp [h17, h18]; exact rr);refine AWp.cnd hr (by simp) (fun h19 hr => ?_) (fun h19 hr => ?_)
      ·refine AWp.skip ?_;obtain rfl := La hr;exact Lp () 3 (by first | (simp; done) | simp [h19])
      ·refine tl hΓ [25] [] ?_ (by simp [h19]; exact rr);obtain rfl := La hr;exact Lp () 3 (by first | (simp; done) | simp [h11, h12, h13, h14, h15, h16, h17, h18, h19])
    ·refine AWp.cnd hr (by simp) (fun h20 hr => ?_) (fun h20 hr => ?_)
     ·refine tq hΓ [6, 7] [5, 0, 1, 25] ?_ (by simp [h20]; exact rr);refine AWp.ret ?_;obtain rfl := La hr;refine meet_ret ?_;refine Ld ?_;simp
     ·refine AWp.skip ?_;obtain rfl := La hr;exact Lp () 3 (by first | (simp; done) | simp [h11, h12, h13, h14, h15, h16, h20])
  ·refine td hΓ [9] [5, 1] [(0, 8), (1, 8), (2, 8), (3, 8), (4, 8), (5, 8), (6, 8)] [(false, []), (false, []), (false, []), (false, []), (false, []), (false, []), (false, []), (true, []), (true, [])] (by simp; exact rr) ?_;refine td hΓ [] [] [] [(false, []), (false, []), (false, []), (false, []), (false, []), (false, []), (false, []), (true, [])] (by simp; exact rr) ?_;refine tq hΓ [] [0] ?_ (by simp; exact rr);refine tq hΓ [6, 7] [9] ?_ (by simp; exact rr);obtain rfl := La hr;exact AWp.ret (Ld (by simp))
@[simp] noncomputable def gP.S : Sp
  | [.ptr i0 0, .lit (.string x1), .lit (.string x2)], M => (rdB M i0).bind fun c0 => (rdM c0 0).bind fun i1 => (rdE M i1).bind fun c1 => (fun (y0 : Tp) => (fun (r : Int × Int × Tp) => some { av := .tup [.lit (.int .i64 (r.1)), .lit (.int .i64 (r.2.1))], M := some ((M.set i0 (.blk [.mp i1, .lit (.int .i64 (r.2.2.fj))])).set i1 (.mapo (qas (kI .i64) (vA Ta.enc) (r.2.2.fe)))), obl := c0 = Tp.enc y0 i1 ∧ c1 = qas (kI .i64) (vA Ta.enc) (y0.fe) ∧ (gP y0 x1 x2).isSome = true ∧ i0 ≠ i1 }) ((gP y0 x1 x2).getD dflt)) (Tp.dec c0 (decM dkI (dvA Ta.dec) c1))
  | _, _ => none
theorem gP.ok : qap Tryz.prog 34 gP.S := by
 intro l M out h;unfold gP.S at h;split at h
 ·rename_i i0 x1 x2;obtain ⟨c0, hM0, h⟩ := bB h;obtain ⟨i1, he1, h⟩ := bM h;obtain ⟨c1, hM1, h⟩ := bE h
  try dsimp only at h
  cases h;refine qad fun ho => ?_;obtain ⟨oc0, oc1, hs, hne0⟩ := ho;generalize (Tp.dec c0 (decM dkI (dvA Ta.dec) c1)) = y0 at *
  subst oc0;subst oc1;obtain ⟨r, hr⟩ := so1 hs;simp only [hr, gd1];have q := Lf (M := M) [i0, i1] (gP.can y0 x1 x2 r hr) (by simp [hne0]) rfl (ix (by simp [hM0, into]) (ix (by simp [hM1]) ixn));exact qac q trivial (by simp [into]) (by simp [qaa, into]) (by simp [qaa, into])
 ·cases h
end Go.Proofs
end
section
namespace Go.Proofs
open Go.Ab
@[simp] def gax.out (_x0 : ByteArray) (_x1 : Int) (r : ByteArray) : Out := { av := .lit (.string r), M := none }
set_option maxHeartbeats 4000000 in
set_option maxRecDepth 100000 in
theorem gax.can (x0 : ByteArray) (x1 : Int) (r : ByteArray) (hr : gax x0 x1 = some r) : qao Tryz.prog 40 [.lit (.string x0), .lit (.int .i64 x1)] [] (gax.out x0 x1 r) := by
 unfold gax at hr;have hΓ := qae (P := Tryz.prog);refine cw Tryz.func40 rfl (by kernel_rfl) rfl rfl (by simp) fun _ _ _ => ?_;refine tq hΓ [] [] ?_;refine AWp.seq ?_;refine tq hΓ [8] [] ?_;refine AWp.cnd hr (by simp) (fun h3 hr => ?_) (fun h3 hr => ?_)
 ·obtain ⟨h4, hr⟩ := Lg hr;refine tq hΓ [4] [8, 0, 1] ?_ (by simp [h3, h4]; exact rr);obtain rfl := La hr;exact AWp.ret (Ld (by simp))
 ·refine AWp.skip ?_;refine tq hΓ [4] [8, 0, 1] ?_ (by simp [h3]; exact rr);obtain rfl := La hr;exact AWp.ret (Ld (by simp))
@[simp] noncomputable def gax.S : Sp
  | [.lit (.string x0), .lit (.int .i64 x1)], _ => some { av := .lit (.string ((gax x0 x1).getD dflt)), M := none, obl := (gax x0 x1).isSome = true }
  | _, _ => none
set_option maxHeartbeats 1000000 in
theorem gax.ok : qap Tryz.prog 40 gax.S := by
 intro l M out h;unfold gax.S at h;split at h
 ·rename_i x0 x1;cases h;refine qad fun ho => ?_;have hs := ho;obtain ⟨r, hr⟩ := so1 hs;simp only [hr, gd1];have q := Lf (M := M) [] (gax.can x0 x1 r hr) (by simp) rfl ixn;exact qac q trivial (by simp) (by simp [qaa]) (by simp [qaa])
 ·cases h
end Go.Proofs
end
section
namespace Go.Proofs
open Go.Ab Go.Lib
theorem qag : noS.size ≤ 1000 := by decide
theorem ck_leave {p : Int} (hp : 0 ≤ p ∧ p ≤ 65535) : gaF (.mk 2 noS noS p 0 0 0 false false []) = some 0 := by
 rw [valid_check (Valid.leave p hp) qag qag]; rfl
theorem Rl.links {n : Nat} {x : St4} {a : Th} (h : Rl n x a) : gj a = some (x.S.map lnk) := by
 obtain ⟨m, h1, rfl⟩ := h;exact links_d h1.prm h1.up (by have := h1.slen; have := h1.nn; omega)
end Go.Proofs
end
section
namespace Go.Proofs
open Go.Ab
noncomputable def gaE.loop2 (s1 : Int × (List (Int × Ta)) × Int × (List (Tc × Te)) × (List (Tb × Tf)) × (List (Int × Tg))) (s2 : Int × (List (Int × Ta)) × Int × (List (Tc × Te)) × (List (Tb × Tf)) × (List (Int × Tg))) : Option (Fl (Int × (List (Int × Ta)) × Int × (List (Tc × Te)) × (List (Tb × Tf)) × (List (Int × Tg))) (Fl ((List (Int × Ta)) × Int × (List (Tc × Te)) × (List (Tb × Tf)) × (List (Int × Tg))) (Fl (Int × (List (Int × Ta)) × Int × (List (Tc × Te)) × (List (Tb × Tf)) × (List (Int × Tg))) (Fl ((List (Int × Ta)) × Int × (List (Tc × Te)) × (List (Tb × Tf)) × (List (Int × Tg))) Bool)))) :=
 bif (ltI s2.1 4) then (
  ((gl (Th.mk (Tp.mk s2.2.1 s2.2.2.1) s2.2.2.2.1 s2.2.2.2.2.1 s2.2.2.2.2.2) (Td.mk 3 ⟨#[]⟩ ⟨#[]⟩ s1.1 0 s2.1 0 false false [(cvtI .u32 (addI .i64 (addI .i64 1000 (mulI .i64 10 s1.1)) s2.1))]))).bind fun r3 =>
  bif (neI r3.2.1 0) then (
   some (.out (.out (.out (.out false))))
  ) else (
    some (.go ((addI .i64 s2.1 1), r3.2.2.fd.fe, r3.2.2.fd.fj, r3.2.2.fb, r3.2.2.fg, r3.2.2.fh))
  )
 ) else (
   some (.out (.go (s2.2.1, s2.2.2.1, s2.2.2.2.1, s2.2.2.2.2.1, s2.2.2.2.2.2)))
 )
noncomputable def gaE.loop1  (s1 : Int × (List (Int × Ta)) × Int × (List (Tc × Te)) × (List (Tb × Tf)) × (List (Int × Tg))) : Option (Fl (Int × (List (Int × Ta)) × Int × (List (Tc × Te)) × (List (Tb × Tf)) × (List (Int × Tg))) (Fl ((List (Int × Ta)) × Int × (List (Tc × Te)) × (List (Tb × Tf)) × (List (Int × Tg))) Bool)) :=
 bif (ltI s1.1 6) then (
  ((loopF (gaE.loop2 s1) (1, s1.2.1, s1.2.2.1, s1.2.2.2.1, s1.2.2.2.2.1, s1.2.2.2.2.2)).bind fun f => flC f fun (v2 : (List (Int × Ta)) × Int × (List (Tc × Te)) × (List (Tb × Tf)) × (List (Int × Tg))) =>
    some (.go ((addI .i64 s1.1 1), v2.1, v2.2.1, v2.2.2.1, v2.2.2.2.1, v2.2.2.2.2))
  )
 ) else (
   some (.out (.go (s1.2.1, s1.2.2.1, s1.2.2.2.1, s1.2.2.2.2.1, s1.2.2.2.2.2)))
 )
noncomputable def gaE.loop4 (s3 : Int × Int × (List (Int × Ta)) × Int × (List (Tc × Te)) × (List (Tb × Tf)) × (List (Int × Tg))) (s4 : Int × Int × (List (Int × Ta)) × Int × (List (Tc × Te)) × (List (Tb × Tf)) × (List (Int × Tg))) : Option (Fl (Int × Int × (List (Int × Ta)) × Int × (List (Tc × Te)) × (List (Tb × Tf)) × (List (Int × Tg))) (Fl (Int × (List (Int × Ta)) × Int × (List (Tc × Te)) × (List (Tb × Tf)) × (List (Int × Tg))) (Fl (Int × Int × (List (Int × Ta)) × Int × (List (Tc × Te)) × (List (Tb × Tf)) × (List (Int × Tg))) (Fl ((List (Int × Ta)) × Int × (List (Tc × Te)) × (List (Tb × Tf)) × (List (Int × Tg))) Bool)))) :=
 bif (ltI s4.1 4) then (
  ((gl (Th.mk (Tp.mk s4.2.2.1 s4.2.2.2.1) s4.2.2.2.2.1 s4.2.2.2.2.2.1 s4.2.2.2.2.2.2) (Td.mk 5 ⟨#[]⟩ ⟨#[]⟩ 0 s3.1 s4.1 0 false false []))).bind fun r4 =>
  bif (qaf (neB (eqI r4.2.1 0) (ltI s4.2.1 16)) true (qaf (neI r4.2.1 0) (neI r4.2.1 11) false)) then (
   some (.out (.out (.out (.out false))))
  ) else (
    some (.go ((addI .i64 s4.1 1), (addI .i64 s4.2.1 1), r4.2.2.fd.fe, r4.2.2.fd.fj, r4.2.2.fb, r4.2.2.fg, r4.2.2.fh))
  )
 ) else (
   some (.out (.go (s4.2.1, s4.2.2.1, s4.2.2.2.1, s4.2.2.2.2.1, s4.2.2.2.2.2.1, s4.2.2.2.2.2.2)))
 )
noncomputable def gaE.loop3  (s3 : Int × Int × (List (Int × Ta)) × Int × (List (Tc × Te)) × (List (Tb × Tf)) × (List (Int × Tg))) : Option (Fl (Int × Int × (List (Int × Ta)) × Int × (List (Tc × Te)) × (List (Tb × Tf)) × (List (Int × Tg))) (Fl ((List (Int × Ta)) × Int × (List (Tc × Te)) × (List (Tb × Tf)) × (List (Int × Tg))) Bool)) :=
 bif (ltI s3.1 6) then (
  ((loopF (gaE.loop4 s3) (0, s3.2.1, s3.2.2.1, s3.2.2.2.1, s3.2.2.2.2.1, s3.2.2.2.2.2.1, s3.2.2.2.2.2.2)).bind fun f => flC f fun (v4 : Int × (List (Int × Ta)) × Int × (List (Tc × Te)) × (List (Tb × Tf)) × (List (Int × Tg))) =>
    some (.go ((addI .i64 s3.1 1), v4.1, v4.2.1, v4.2.2.1, v4.2.2.2.1, v4.2.2.2.2.1, v4.2.2.2.2.2))
  )
 ) else (
   some (.out (.go (s3.2.2.1, s3.2.2.2.1, s3.2.2.2.2.1, s3.2.2.2.2.2.1, s3.2.2.2.2.2.2)))
 )
noncomputable def gaE (x0 : Int) (x1 : Int) : Option Bool :=
 (gbb).bind fun r1 =>
 bif (notB r1) then (
  some false
 ) else (
   ((ga3 6)).bind fun r2 =>
   ((loopF gaE.loop1 (1, r2.fd.fe, r2.fd.fj, r2.fb, r2.fg, r2.fh)).bind fun f => flC f fun (v1 : (List (Int × Ta)) × Int × (List (Tc × Te)) × (List (Tb × Tf)) × (List (Int × Tg))) =>
     ((loopF gaE.loop3 (1, 0, v1.1, v1.2.1, v1.2.2.1, v1.2.2.2.1, v1.2.2.2.2)).bind fun f => flC f fun (v3 : (List (Int × Ta)) × Int × (List (Tc × Te)) × (List (Tb × Tf)) × (List (Int × Tg))) =>
       need (NonZ 16) <|
       need (NonZ 3) <|
       need (NonZ 4) <|
       need (NonZ 4) <|
       ((gl (Th.mk (Tp.mk v3.1 v3.2.1) v3.2.2.1 v3.2.2.2.1 v3.2.2.2.2) (Td.mk 5 ⟨#[]⟩ ⟨#[]⟩ 0 (addI .i64 1 (quoI .i64 (remI (qaq .and .i64 x0 255) 16) 4)) (remI (remI (qaq .and .i64 x0 255) 16) 4) (remI (qaq .and .i64 x1 255) 3) false false []))).bind fun r5 =>
       ((gba r5.2.2 (Tb.mk 0 (Tc.mk (addI .i64 1 (quoI .i64 (remI (qaq .and .i64 x0 255) 16) 4)) (remI (remI (qaq .and .i64 x0 255) 16) 4))))).bind fun r6 =>
       need (Under (qaf (qaf (eqI r5.2.1 0) r6.2 false) (eqI r6.1.fo (remI (qaq .and .i64 x1 255) 3)) false) true ((gj r5.2.2).isSome = true)) <|
       some (qaf (qaf (qaf (eqI r5.2.1 0) r6.2 false) (eqI r6.1.fo (remI (qaq .and .i64 x1 255) 3)) false) (eqI (qat ((gj r5.2.2).getD dflt)) 16) false)
     )
   )
 )
end Go.Proofs
end
section
namespace Go.Proofs
open Go.Ab Go.Lib
theorem Rl.wants {n : Nat} {x : St4} {a : Th} (h : Rl n x a) (k : Tc) : gh a k = some (wantsL x.S k) := by
 obtain ⟨m, h1, rfl⟩ := h;exact wants_d h1 k
end Go.Proofs
end
