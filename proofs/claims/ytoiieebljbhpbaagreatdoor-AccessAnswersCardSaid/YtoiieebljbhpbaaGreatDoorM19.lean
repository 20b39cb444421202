/- That these functions compute what their plain functions do. No condition. -/
import Derived.Test.YtoiieebljbhpbaaGreatDoorM07
import Derived.Test.YtoiieebljbhpbaaGreatDoorTy
import Derived.Test.YtoiieebljbhpbaaGreatDoorNa
import Derived.Test.YtoiieebljbhpbaaGreatDoorHa
import Derived.Test.YtoiieebljbhpbaaGreatDoorM10
import Derived.Test.YtoiieebljbhpbaaGreatDoorM15
section
set_option maxRecDepth 100000
set_option maxHeartbeats 4000000
namespace Go.Proofs
open Go.Ab
@[simp] def gS.m (_x0 : Ta) (x1 : ByteArray) : List AObj := [.blk [.lit (.string x1)]]
@[simp] def gS.out (_x0 : Ta) (_x1 : ByteArray) (r : Bool) : Out := { av := .lit (.bool r), M := none }
theorem gS.can (x0 : Ta) (x1 : ByteArray) (r : Bool) (hr : gS x0 x1 = some r) : CallOk Tryz.prog 83 [.agg [.lit (.int .i64 x0.fN), .lit (.string x0.fp), .lit (.string x0.fm)], .ptr 0 0] (gS.m x0 x1) (gS.out x0 x1 r) := by
 unfold gS at hr
 have hΓ := (gamL_cons gW.ok (gamL_nil) : GamOk Tryz.prog _)
 refine cw Tryz.func83 rfl (by kernel_rfl) rfl rfl (by simp) fun _ _ _ => ?_
 refine tq hΓ [2] [0] ?_
 obtain ⟨r1, h2, hr⟩ := Ld hr
 refine tq hΓ [3] [2, 1] ?_ (by simp [h2]; exact rr)
 obtain rfl := La hr
 exact AWp.ret (Le (by simp))

@[simp] noncomputable def gS.S : Sp
  | [.agg e0, .ptr i0 0], M => (rdB M i0).bind fun c0 => some { av := .lit (.bool ((gS (Ta.dec e0) (decS c0)).getD dflt)), M := none, obl := WeakL e0 (Ta.enc (Ta.dec e0)) ∧ c0 = eTxt (decS c0) ∧ (gS (Ta.dec e0) (decS c0)).isSome = true }
  | _, _ => none

theorem gS.ok : SpecOk Tryz.prog 83 gS.S := by
 intro l M out h
 unfold gS.S at h
 split at h
 ·rename_i e0 i0
  obtain ⟨c0, hM0, h⟩ := bB h
  cases h
  refine callOk_of fun ho => ?_
  obtain ⟨ox0, oc0, hs⟩ := ho
  generalize (Ta.dec e0) = x0 at *
  generalize (decS c0) = y0 at *
  subst oc0
  obtain ⟨r, hr⟩ := so1 hs
  simp only [hr, gd1]
  have q := Lh (M := M) [i0] (gS.can x0 y0 r hr) (by simp) rfl (ix (by simp [hM0]) ixn)
  exact callOk_conv q trivial (by simp [into]; exact ox0) (by simp [frameOut]) (by simp only [frameOut, gS.out, Option.getD_some, Option.getD_none]; simp [hM0, set_same])
 ·cases h

@[simp] def ga.m (_x0 : List Ta) (x1c0 : ByteArray) : List AObj := [.blk [.lit (.string x1c0)]]
@[simp] def ga.out (_x0 : List Ta) (_x1c0 : ByteArray) (r : Int) : Out := { av := .lit (.int .i64 r), M := none }
def ga.fin (x0 : List Ta) (x1c0 : ByteArray) (r : Int) (σ : St) : Prop := finK (ga.out x0 x1c0 r) (ga.m x0 x1c0) σ.M (resA Tryz.ty σ.A σ.M Tryz.f123.results.toList)
theorem ga.can (x0 : List Ta) (x1c0 : ByteArray) (r : Int) (hr : ga x0 x1c0 = some r) : CallOk Tryz.prog 123 [.sl (x0.map Ta.enc) .no, .clo 83 [.ptr 0 0]] (ga.m x0 x1c0) (ga.out x0 x1c0 r) := by
 unfold ga at hr
 have hΓ := (gamL_cons gS.ok (gamL_nil) : GamOk Tryz.prog _)
 refine cw Tryz.func123 rfl (by kernel_rfl) rfl rfl (by simp) fun _ _ _ => ?_
 refine tq hΓ [] [] ?_
 refine AWp.seq ?_
 refine tq hΓ [7, 8] [] ?_
 refine AWp.loopE (fun (s1 : Int) (γ1 : Unit) => ⟨[⟨7, none, .n (lenL x0)⟩, ⟨8, none, .n s1⟩, ⟨0, none, .sl (x0.map Ta.enc) .no⟩, ⟨1, none, .clo 83 [.ptr 0 0]⟩], [.blk [.s x1c0]]⟩) (fun (v1 : Unit) (γ1a : Unit) => ⟨[], [.blk [.s x1c0]]⟩) (ga.fin x0 x1c0) hr () 1 (by simp) (fun s1 f γ1 hr => ?_) (fun v1 γ1a σ1 m1 hr hc => ?_) (fun _ h => h)
 ·unfold ga.loop1 at hr
  refine tq hΓ [9] [] ?_
  refine AWp.seq ?_
  refine AWp.cnd hr (by simp) (fun h5 hr => ?_) (fun h5 hr => ?_)
  ·refine AWp.skip ?_
   refine AWp.seq ?_
   refine AWp.block ?_
   refine tq hΓ [5] [9] ?_ (by simp [h5]; exact rr)
   obtain ⟨h6, hr⟩ := Lg hr
   obtain ⟨r1, h7, hr⟩ := Ld hr
   refine tq hΓ [16] [] ?_ (by simp [h6, h7]; exact rr)
   refine AWp.cnd hr (by simp) (fun h8 hr => ?_) (fun h8 hr => ?_)
   ·refine tq hΓ [4] [16, 5, 7, 8, 0, 1] ?_ (by simp [h8]; exact rr)
    refine AWp.ret ?_
    obtain rfl := La hr
    refine round_ret ?_
    refine Le ?_
    simp
   ·refine AWp.skip ?_
    refine tl hΓ [8] [16, 5] ?_ (by simp [h8]; exact rr)
    obtain rfl := La hr
    exact Lq () 1 (by first | (simp; done) | simp [h5, h6, h7, h8])
  ·refine AWp.exit ?_
   obtain rfl := La hr
   exact Lo () 1 (by first | (simp; done) | simp [h5])
 ·refine AWp.conv hc ?_
  refine tq hΓ [4] [] ?_
  obtain rfl := La hr
  exact AWp.ret (Le (by simp))

@[simp] noncomputable def ga.S : Sp
  | [.sl e0 _, .clo 83 [.ptr i0 0]], M => (rdB M i0).bind fun c0 => some { av := .lit (.int .i64 ((ga (e0.map Ta.dec) (decS c0)).getD dflt)), M := none, obl := e0 = (e0.map Ta.dec).map Ta.enc ∧ c0 = eTxt (decS c0) ∧ (ga (e0.map Ta.dec) (decS c0)).isSome = true }
  | _, _ => none

theorem ga.ok : SpecOk Tryz.prog 123 ga.S := by
 intro l M out h
 unfold ga.S at h
 split at h
 ·rename_i e0 k0 i0
  obtain ⟨c0, hM0, h⟩ := bB h
  cases h
  refine callOk_of fun ho => ?_
  obtain ⟨ox0, oc0, hs⟩ := ho
  generalize (e0.map Ta.dec) = x0 at *
  generalize (decS c0) = y0 at *
  subst ox0
  subst oc0
  obtain ⟨r, hr⟩ := so1 hs
  simp only [hr, gd1]
  have q := Lh (M := M) [i0] (ga.can x0 y0 r hr) (by simp) rfl (ix (by simp [hM0]) ixn)
  exact callOk_conv q trivial (by simp [into]) (by simp [frameOut]) (by simp only [frameOut, ga.out, Option.getD_some, Option.getD_none]; simp [hM0, set_same])
 ·cases h

@[simp] def gc.m (_x0 : List Ta) (x1c0 : ByteArray) : List AObj := [.blk [.lit (.string x1c0)]]
@[simp] def gc.out (_x0 : List Ta) (_x1c0 : ByteArray) (r : Bool) : Out := { av := .lit (.bool r), M := none }
theorem gc.can (x0 : List Ta) (x1c0 : ByteArray) (r : Bool) (hr : gc x0 x1c0 = some r) : CallOk Tryz.prog 82 [.sl (x0.map Ta.enc) .no, .clo 83 [.ptr 0 0]] (gc.m x0 x1c0) (gc.out x0 x1c0 r) := by
 unfold gc at hr
 have hΓ := (gamL_cons ga.ok (gamL_nil) : GamOk Tryz.prog _)
 refine cw Tryz.func82 rfl (by kernel_rfl) rfl rfl (by simp) fun _ _ _ => ?_
 refine tq hΓ [] [] ?_
 obtain ⟨r1, h2, hr⟩ := Ld hr
 refine tq hΓ [4] [0, 1] ?_ (by simp [h2]; exact rr)
 obtain rfl := La hr
 exact AWp.ret (Le (by simp))

@[simp] noncomputable def gc.S : Sp
  | [.sl e0 _, .clo 83 [.ptr i0 0]], M => (rdB M i0).bind fun c0 => some { av := .lit (.bool ((gc (e0.map Ta.dec) (decS c0)).getD dflt)), M := none, obl := e0 = (e0.map Ta.dec).map Ta.enc ∧ c0 = eTxt (decS c0) ∧ (gc (e0.map Ta.dec) (decS c0)).isSome = true }
  | _, _ => none

theorem gc.ok : SpecOk Tryz.prog 82 gc.S := by
 intro l M out h
 unfold gc.S at h
 split at h
 ·rename_i e0 k0 i0
  obtain ⟨c0, hM0, h⟩ := bB h
  cases h
  refine callOk_of fun ho => ?_
  obtain ⟨ox0, oc0, hs⟩ := ho
  generalize (e0.map Ta.dec) = x0 at *
  generalize (decS c0) = y0 at *
  subst ox0
  subst oc0
  obtain ⟨r, hr⟩ := so1 hs
  simp only [hr, gd1]
  have q := Lh (M := M) [i0] (gc.can x0 y0 r hr) (by simp) rfl (ix (by simp [hM0]) ixn)
  exact callOk_conv q trivial (by simp [into]) (by simp [frameOut]) (by simp only [frameOut, gc.out, Option.getD_some, Option.getD_none]; simp [hM0, set_same])
 ·cases h

@[simp] def gL.m (x0 : Tj) (_x1 : ByteArray) (_x2 : ByteArray) : List AObj := [.blk [.mp 1, .lit (.int .i64 x0.fj)], .mapo (encM (kI .i64) (vA Ta.enc) x0.fe)]
@[simp] def gL.out (_x0 : Tj) (_x1 : ByteArray) (_x2 : ByteArray) (r : Int × Int × Tj) : Out := { av := .tup [.lit (.int .i64 r.1), .lit (.int .i64 r.2.1)], M := some [.blk [.mp 1, .lit (.int .i64 r.2.2.fj)], .mapo (encM (kI .i64) (vA Ta.enc) r.2.2.fe)] }
def gL.fin (x0 : Tj) (x1 : ByteArray) (x2 : ByteArray) (r : Int × Int × Tj) (σ : St) : Prop := finK (gL.out x0 x1 x2 r) (gL.m x0 x1 x2) σ.M (resA Tryz.ty σ.A σ.M Tryz.f34.results.toList)
theorem gL.can (x0 : Tj) (x1 : ByteArray) (x2 : ByteArray) (r : Int × Int × Tj) (hr : gL x0 x1 x2 = some r) : CallOk Tryz.prog 34 [.ptr 0 0, .lit (.string x1), .lit (.string x2)] (gL.m x0 x1 x2) (gL.out x0 x1 x2 r) := by
 unfold gL at hr
 have hΓ := (gamL_cons gF.ok (gamL_cons gN.ok (gamL_cons gC.ok (gamL_cons gc.ok (gamL_nil)))) : GamOk Tryz.prog _)
 refine cw Tryz.func34 rfl (by kernel_rfl) rfl rfl (by simp) fun _ _ _ => ?_
 refine tq hΓ [5] [2] ?_
 refine AWp.seq ?_
 obtain ⟨r1, h11, hr⟩ := Ld hr
 obtain ⟨h12, hr⟩ := Lg hr
 refine tq hΓ [17] [] ?_ (by simp [h11, h12]; exact rr)
 refine AWp.cnd hr (by simp) (fun h13 hr => ?_) (fun h13 hr => ?_)
 ·refine tq hΓ [6, 7] [17, 5, 0, 1] ?_ (by simp [h13]; exact rr)
  obtain rfl := La hr
  exact AWp.ret (Le (by simp))
 ·refine AWp.skip ?_
  obtain ⟨r2, h14, hr⟩ := Ld hr
  refine tq hΓ [8] [17] ?_ (by simp [h13, h14]; exact rr)
  refine AWp.meetF (fun (v1 : Unit) (γ1 : Unit) => ⟨[⟨5, none, .ptr 2 0⟩, ⟨0, none, .ptr 0 0⟩, ⟨1, none, .s x1⟩], [.blk [.mp 1, .n x0.fj], .mapo (encM (kI .i64) (vA Ta.enc) x0.fe), .blk [.s x2]]⟩) (gL.fin x0 x1 x2) hr (fun f hr => ?_) (fun v1 γ1 hr => ?_) (fun _ h => h)
  ·refine AWp.block ?_
   obtain ⟨r3, h15, hr⟩ := Ld hr
   refine tq hΓ [21] [] ?_ (by simp [h15]; exact rr)
   refine AWp.cnd hr (by simp) (fun h16 hr => ?_) (fun h16 hr => ?_)
   ·refine tq hΓ [6, 7] [21, 8, 5, 0, 1] ?_ (by simp [h16]; exact rr)
    refine AWp.ret ?_
    obtain rfl := La hr
    refine meet_ret ?_
    refine Le ?_
    simp
   ·refine AWp.meetF (fun (v2 : Bool) (γ2 : Unit) => ⟨[⟨5, none, .ptr 2 0⟩, ⟨0, none, .ptr 0 0⟩, ⟨1, none, .s x1⟩, ⟨25, none, .b v2⟩], [.blk [.mp 1, .n x0.fj], .mapo (encM (kI .i64) (vA Ta.enc) x0.fe), .blk [.s x2]]⟩) (QRm (gL.fin x0 x1 x2)) hr (fun f hr => ?_) (fun v2 γ2 hr => ?_) (fun _ h => QRm_ret h)
    ·refine tq hΓ [25] [21] ?_ (by simp [h16]; exact rr)
     refine AWp.cnd hr (by simp) (fun h17 hr => ?_) (fun h17 hr => ?_)
     ·refine AWp.skip ?_
      obtain rfl := La hr
      exact meet_go () 3 (by first | (simp; done) | simp [h17])
     ·obtain ⟨h18, hr⟩ := Lg hr
      refine tq hΓ [25] [8] ?_ (by simp [h17, h18]; exact rr)
      refine AWp.cnd hr (by simp) (fun h19 hr => ?_) (fun h19 hr => ?_)
      ·refine AWp.skip ?_
       obtain rfl := La hr
       exact meet_go () 3 (by first | (simp; done) | simp [h19])
      ·refine tl hΓ [25] [] ?_ (by simp [h19]; exact rr)
       obtain rfl := La hr
       exact meet_go () 3 (by first | (simp; done) | simp [h11, h12, h13, h14, h15, h16, h17, h18, h19])
    ·refine AWp.cnd hr (by simp) (fun h20 hr => ?_) (fun h20 hr => ?_)
     ·refine tq hΓ [6, 7] [5, 0, 1, 25] ?_ (by simp [h20]; exact rr)
      refine AWp.ret ?_
      obtain rfl := La hr
      refine meet_ret ?_
      refine Le ?_
      simp
     ·refine AWp.skip ?_
      obtain rfl := La hr
      exact meet_go () 3 (by first | (simp; done) | simp [h11, h12, h13, h14, h15, h16, h20])
  ·refine td hΓ [9] [5, 1] [(0, 8), (1, 8), (2, 8), (3, 8), (4, 8), (5, 8), (6, 8)] [(false, []), (false, []), (false, []), (false, []), (false, []), (false, []), (false, []), (true, []), (true, [])] (by simp; exact rr) ?_
   refine td hΓ [] [] [] [(false, []), (false, []), (false, []), (false, []), (false, []), (false, []), (false, []), (true, [])] (by simp; exact rr) ?_
   refine tq hΓ [] [0] ?_ (by simp; exact rr)
   refine tq hΓ [6, 7] [9] ?_ (by simp; exact rr)
   obtain rfl := La hr
   exact AWp.ret (Le (by simp))

@[simp] noncomputable def gL.S : Sp
  | [.ptr i0 0, .lit (.string x1), .lit (.string x2)], M => (rdB M i0).bind fun c0 => (rdM c0 0).bind fun i1 => (rdE M i1).bind fun c1 => (fun (y0 : Tj) => (fun (r : Int × Int × Tj) => some { av := .tup [.lit (.int .i64 (r.1)), .lit (.int .i64 (r.2.1))], M := some ((M.set i0 (.blk [.mp i1, .lit (.int .i64 (r.2.2.fj))])).set i1 (.mapo (encM (kI .i64) (vA Ta.enc) (r.2.2.fe)))), obl := c0 = Tj.enc y0 i1 ∧ c1 = encM (kI .i64) (vA Ta.enc) (y0.fe) ∧ (gL y0 x1 x2).isSome = true ∧ i0 ≠ i1 }) ((gL y0 x1 x2).getD dflt)) (Tj.dec c0 (decM dkI (dvA Ta.dec) c1))
  | _, _ => none

theorem gL.ok : SpecOk Tryz.prog 34 gL.S := by
 intro l M out h
 unfold gL.S at h
 split at h
 ·rename_i i0 x1 x2
  obtain ⟨c0, hM0, h⟩ := bB h
  obtain ⟨i1, he1, h⟩ := bM h
  obtain ⟨c1, hM1, h⟩ := bE h
  try dsimp only at h
  cases h
  refine callOk_of fun ho => ?_
  obtain ⟨oc0, oc1, hs, hne0⟩ := ho
  generalize (Tj.dec c0 (decM dkI (dvA Ta.dec) c1)) = y0 at *
  subst oc0
  subst oc1
  obtain ⟨r, hr⟩ := so1 hs
  simp only [hr, gd1]
  have q := Lh (M := M) [i0, i1] (gL.can y0 x1 x2 r hr) (by simp [hne0]) rfl (ix (by simp [hM0, into]) (ix (by simp [hM1]) ixn))
  exact callOk_conv q trivial (by simp [into]) (by simp [frameOut, into]) (by simp [frameOut, into])
 ·cases h
end Go.Proofs
end
section
namespace Go.Proofs
open Go.Ab Go.Lib
abbrev Pr := Ta

theorem walk {S T : Type} {body : S → Option (Fl S T)} (st : Nat → S) : ∀ n : Nat, (∀ i, i < n → body (st i) = some (.go (st (i + 1)))) → loopF body (st 0) = loopF body (st n)
 | 0, _ => rfl
 | n + 1, h => by
   rw [walk st n fun i hi => h i (by omega), loopF_eq, h n (by omega)]
theorem walk_out {S T : Type} {body : S → Option (Fl S T)} (st : Nat → S) {n : Nat} {t : T} (h : ∀ i, i < n → body (st i) = some (.go (st (i + 1)))) (h2 : body (st n) = some (.out t)) : loopF body (st 0) = some t := by
 rw [walk st n h, loopF_eq, h2]
theorem nthI_at {α : Type} [Inhabited α] {l : List α} {i : Nat} (h : i < l.length) : nthI l (i : Int) = l[i] := by
 simp [nthI, List.getD, h]
theorem inB_at {α : Type} {l : List α} {i : Nat} (h : i < l.length) : InB (i : Int) (lenL l) := ⟨by omega, by unfold lenL; omega⟩
theorem Lm {i : Nat} (h : i < 1000000000) : addI .i64 (i : Int) 1 = ((i + 1 : Nat) : Int) := by rw [addI_n (by omega) (by omega)]; omega
theorem take_next {α : Type} {l : List α} {i : Nat} (h : i < l.length) : l.take (i + 1) = l.take i ++ [l[i]] := by simp
noncomputable def inL (L : List Pr) (room : ByteArray) : List Pr := L.filter fun p => eqS (foldS p.fm) (foldS room)
noncomputable def roomsL (L : List Pr) : List ByteArray := L.map fun p => foldS p.fm
def entL (L : List Pr) : List (Int × Pr) := L.map fun p => (p.fN, p)
def idsL (L : List Pr) : List Int := L.map fun p => p.fN
theorem keys_ent (L : List Pr) : keysM (entL L) = idsL L := by simp [keysM, entL, idsL, Function.comp_def]
theorem inL_app (L : List Pr) (p : Pr) (room : ByteArray) : inL (L ++ [p]) room = if eqS (foldS p.fm) (foldS room) = true then inL L room ++ [p] else inL L room := by
 unfold inL
 rw [List.filter_append]
 cases h : eqS (foldS p.fm) (foldS room) <;> simp [h]
theorem inL_len (L : List Pr) (room : ByteArray) : (inL L room).length ≤ L.length := List.length_filter_le _ _
structure Tbl (L : List Pr) (nx : Int) : Prop where
 up : (idsL L).Pairwise (· < ·)
 rng : ∀ p ∈ L, 0 ≤ p.fN ∧ p.fN < nx
 num : 0 ≤ nx ∧ nx ≤ 65536
 len : (L.length : Int) ≤ nx
 room : ∀ p ∈ L, goodB (scan p.fm 0) = true ∧ p.fm.size ≤ 1000
 name : ∀ p ∈ L, goodB (scan p.fp 0) = true ∧ p.fp.size ≤ 1000
 few : ∀ s, (inL L s).length ≤ 16
 rooms : (nubL (roomsL L)).length ≤ 8

theorem Tbl.nodup {L : List Pr} {nx : Int} (h : Tbl L nx) : (idsL L).Nodup := h.up.imp fun h => by omega
theorem Tbl.nd {L : List Pr} {nx : Int} (h : Tbl L nx) : (keysM (entL L)).Nodup := by rw [keys_ent]; exact h.nodup
theorem Tbl.get {L : List Pr} {nx : Int} (h : Tbl L nx) {p : Pr} (hp : p ∈ L) (z : Pr) : getM eqI p.fN z (entL L) = p := getM_of h.nd (List.mem_map.2 ⟨p, hp, rfl⟩)
theorem Tbl.sort {L : List Pr} {nx : Int} (h : Tbl L nx) : sortL (keysM (entL L)) = idsL L := by
 rw [keys_ent]
 exact sortL_of (.refl _) (h.up.imp fun h => by omega)
theorem Tbl.keysB {L : List Pr} {nx : Int} (h : Tbl L nx) : KeysB (keysM (entL L)) := by
 rw [keys_ent]
 have h1 := h.num
 have h2 := h.len
 refine KeysB_of (fun x hx => ?_) (by simp only [idsL, List.length_map]; omega)
 obtain ⟨p, hp, rfl⟩ := List.mem_map.1 hx
 have := h.rng p hp
 omega
theorem ids_at {L : List Pr} {i : Nat} (h : i < L.length) : nthI (idsL L) (i : Int) = (L[i]).fN := by
 rw [nthI_at (by simpa [idsL] using h)]
 simp [idsL]
theorem ids_len (L : List Pr) : lenL (idsL L) = (L.length : Int) := by simp [lenL, idsL]

/-! ### In -/
theorem in_d {L : List Pr} {nx : Int} (h : Tbl L nx) {room : ByteArray} (hr : room.size ≤ 1000000) (h0 : bytesOf room ≠ []) : gF (Tj.mk (entL L) nx) room = some (inL L room) := by
  have h1 := h.num
  have h2 := h.len
  unfold gF
  have w : loopF (gF.loop1 (Tj.mk (entL L) nx) room) (0, []) = some (.go (inL L room)) := by
   refine walk_out (n := L.length) (fun i => ((i : Int), inL (L.take i) room)) (fun i hi => ?_) ?_
   · have hm : L[i] ∈ L := List.getElem_mem hi
     obtain ⟨g1, g2⟩ := h.room _ hm
     have hl : ((inL (L.take i) room).length : Int) ≤ 65536 := by
       have := inL_len (L.take i) room
       simp only [List.length_take] at this
       omega
     unfold gF.loop1
     simp only
     rw [h.sort, ltI_t (by rw [ids_len]; omega), cond_true, Lf ⟨by omega, by rw [ids_len]; omega⟩, ids_at hi, h.get hm, same_d (by omega) hr (good_ne g1) h0, Lc, take_next hi, inL_app, Lm (by omega)]
     cases eqS (foldS L[i].fm) (foldS room) with
     | true =>
       simp only [cond_true, if_true]
       rw [Lf (show AppB (lenL (inL (L.take i) room)) 1 40 from ⟨by unfold lenL; omega, by unfold lenL; omega⟩)]
       rfl
     | false => simp only [cond_false, Bool.false_eq_true, if_false]
   · unfold gF.loop1
     simp only
     rw [h.sort, ltI_f (by rw [ids_len]; omega), cond_false, List.take_length]
  rw [Lf h.keysB, w]; rfl
structure Doc (L : List Pr) : Prop where
 len : L.length ≤ 65536
 size : ∀ p ∈ L, p.fm.size ≤ 1000 ∧ p.fp.size ≤ 1000
theorem Tbl.doc {L : List Pr} {nx : Int} (h : Tbl L nx) : Doc L := ⟨by have := h.num; have := h.len; omega, fun p hp => ⟨(h.room p hp).2, (h.name p hp).2⟩⟩
theorem Doc.take {L : List Pr} (h : Doc L) (i : Nat) : Doc (L.take i) := ⟨by have := h.len; simp only [List.length_take]; omega, fun p hp => h.size p (List.mem_of_mem_take hp)⟩

theorem rin_d {L : List Pr} (h : Doc L) {nx : Int} {room : ByteArray} (hr : room.size ≤ 1000000) : gaw (Tn.mk L nx) room = some (inL L room) := by
  have h2 := h.len
  unfold gaw
  have w : loopF (gaw.loop1 (Tn.mk L nx) room) (0, []) = some (.go (inL L room)) := by
   refine walk_out (n := L.length) (fun i => ((i : Int), inL (L.take i) room)) (fun i hi => ?_) ?_
   · have hm : L[i] ∈ L := List.getElem_mem hi
     have g2 := (h.size _ hm).1
     have hl : ((inL (L.take i) room).length : Int) ≤ 65536 := by
       have := inL_len (L.take i) room
       simp only [List.length_take] at this
       omega
     unfold gaw.loop1
     simp only
     rw [ltI_t (by unfold lenL; omega), cond_true, Lf (inB_at hi), nthI_at hi, rfold_d (by omega), Lc, rfold_d hr, Lc, take_next hi, inL_app, Lm (by omega)]
     cases eqS (foldS L[i].fm) (foldS room) with
     | true =>
       simp only [cond_true, if_true]
       rw [Lf (show AppB (lenL (inL (L.take i) room)) 1 40 from ⟨by unfold lenL; omega, by unfold lenL; omega⟩)]
       rfl
     | false => simp only [cond_false, Bool.false_eq_true, if_false]
   · unfold gaw.loop1
     simp only
     rw [ltI_f (by unfold lenL; omega), cond_false, List.take_length]
  rw [w]; rfl

/-! ### Rooms -/
theorem folds_ent {L : List Pr} {nx : Int} (h : Tbl L nx) : foldsM (entL L) = roomsL L := by
 unfold foldsM entL roomsL
 rw [List.map_map]
 refine List.map_congr_left fun p hp => ?_
 obtain ⟨g1, g2⟩ := h.room p hp
 simp only [Function.comp]
 rw [fold_d (by omega) (good_ne g1)]; rfl
theorem rooms_d {L : List Pr} {nx : Int} (h : Tbl L nx) : gN (Tj.mk (entL L) nx) = some (sortS (nubL (roomsL L))) := by
 have h1 : ∀ e ∈ entL L, (gQ e.2.fm).isSome = true := fun e he => by
  obtain ⟨p, hp, rfl⟩ := List.mem_map.1 he
  obtain ⟨g1, g2⟩ := h.room p hp
  simp only
  rw [fold_d (by omega) (good_ne g1)]; rfl
 have h2 : KeysBS (roomsL L) := by
  refine ⟨fun x hx => ?_, ?_⟩
  ·obtain ⟨p, hp, rfl⟩ := List.mem_map.1 hx
   have := (h.room p hp).2
   have := fold_size p.fm
   simp only [maxLen]; omega
  ·have := h.num
   have := h.len
   simp only [roomsL, List.length_map]; omega
 unfold gN gap
 simp only
 rw [Lf h1, folds_ent h, Lf h2]
 rfl
theorem sortS_len (l : List ByteArray) : (sortS l).length = l.length := by simp [sortS]
theorem nub_snoc {l : List ByteArray} {f : List ByteArray} (hn : f.Nodup) (hm : ∀ y, y ∈ f ↔ y ∈ l) : f.length = (nubL l).length := by
 have : f.Perm (nubL l) := (List.perm_ext_iff_of_nodup hn (nodup_nubL l)).2 fun y => by rw [hm, mem_nubL]
 exact this.length_eq
theorem inL_nil {L : List Pr} {room : ByteArray} : inL L room = [] ↔ foldS room ∉ roomsL L := by
 unfold inL roomsL
 rw [List.filter_eq_nil_iff, List.mem_map]
 constructor
 ·rintro h ⟨p, hp, e⟩
  exact h p hp ((eqS_iff _ _).2 e)
 ·intro h p hp e
  exact h ⟨p, hp, (eqS_iff _ _).1 e⟩
noncomputable def fst (L : List Pr) : Nat → List ByteArray
 | 0 => []
 | i + 1 => match L[i]? with
   | some p => if inL (L.take i) p.fm = [] then fst L i ++ [foldS p.fm] else fst L i
   | none => fst L i
theorem fst_ok (L : List Pr) : ∀ i, i ≤ L.length → (fst L i).Nodup ∧ ∀ y, y ∈ fst L i ↔ y ∈ roomsL (L.take i)
 | 0, _ => ⟨by simp [fst], fun y => by simp [fst, roomsL]⟩
 | i + 1, h => by
   obtain ⟨h1, h2⟩ := fst_ok L i (by omega)
   have hi : i < L.length := by omega
   have hl : L[i]? = some L[i] := List.getElem?_eq_getElem hi
   have e : roomsL (L.take (i + 1)) = roomsL (L.take i) ++ [foldS L[i].fm] := by unfold roomsL; rw [take_next hi, List.map_append]; rfl
   rw [fst, hl, e]
   simp only
   split
   ·rename_i hn
    have hx := inL_nil.1 hn
    refine ⟨List.nodup_append.2 ⟨h1, by simp, fun a ha b hb => ?_⟩, fun y => by rw [List.mem_append, List.mem_append, h2 y]⟩
    rw [List.mem_singleton.1 hb]
    intro q
    exact hx ((h2 _).1 (q ▸ ha))
   ·rename_i hn
    refine ⟨h1, fun y => ?_⟩
    rw [h2 y, List.mem_append, List.mem_singleton]
    refine ⟨.inl, fun q => q.elim id fun q => ?_⟩
    rw [q]
    exact Classical.byContradiction fun hx => hn (inL_nil.2 hx)
theorem fst_len (L : List Pr) : (fst L L.length).length = (nubL (roomsL L)).length := by
 obtain ⟨h1, h2⟩ := fst_ok L L.length (Nat.le_refl _)
 exact nub_snoc h1 fun y => by rw [h2 y, List.take_length]
theorem fst_le (L : List Pr) : ∀ i, (fst L i).length ≤ i
 | 0 => by simp [fst]
 | i + 1 => by
   have := fst_le L i
   rw [fst]
   split
   ·split
    ·simp only [List.length_append, List.length_cons, List.length_nil]; omega
    ·omega
   ·omega
theorem rrooms_d {L : List Pr} (h : Doc L) {nx : Int} : gaq (Tn.mk L nx) = some (fst L L.length) := by
  have h2 := h.len
  unfold gaq
  have w : loopF (gaq.loop1 (Tn.mk L nx)) (0, []) = some (.go (fst L L.length)) := by
   refine walk_out (n := L.length) (fun i => ((i : Int), fst L i)) (fun i hi => ?_) ?_
   · have hm : L[i] ∈ L := List.getElem_mem hi
     have g2 := (h.size _ hm).1
     have hl : L[i]? = some L[i] := List.getElem?_eq_getElem hi
     have hf := fst_le L i
     have hc : cutL L 0 (i : Int) = L.take i := by simp [cutL]
     unfold gaq.loop1
     simp only
     rw [ltI_t (by unfold lenL; omega), cond_true, Lf (inB_at hi), Lf (show CutB 0 (i : Int) (lenL L) from ⟨by omega, by omega, by unfold lenL; omega⟩), nthI_at hi, hc, rin_d (h.take i) (by omega), Lc, Lm (by omega)]
     rw [fst, hl]
     simp only
     by_cases hn : inL (L.take i) L[i].fm = []
     · rw [if_pos hn, hn, eqI_t (by rfl), cond_true, rfold_d (by omega), Lc, Lf (show AppB (lenL (fst L i)) 1 16 from ⟨by unfold lenL; omega, by unfold lenL; omega⟩)]
       rfl
     · have : (inL (L.take i) L[i].fm).length ≠ 0 := fun q => hn (List.eq_nil_of_length_eq_zero q)
       rw [if_neg hn, eqI_f (by unfold lenL; omega), cond_false]
   · unfold gaq.loop1
     simp only
     rw [ltI_f (by unfold lenL; omega), cond_false]
  rw [w]; rfl
end Go.Proofs
end
