import Derived.Test.YtoiieebljbhpbaaGreatDoorM20
import Derived.Test.YtoiieebljbhpbaaGreatDoorTy
import Derived.Test.YtoiieebljbhpbaaGreatDoorM21
import Derived.Test.YtoiieebljbhpbaaGreatDoorBu
import Derived.Test.YtoiieebljbhpbaaGreatDoorM08
section
set_option maxRecDepth 100000
set_option maxHeartbeats 4000000
namespace Go.Proofs
open Go.Ab
@[simp] def gw.out (_x0 : ByteArray) (_x1 : ByteArray) (r : Bool) : Out := { av := .lit (.bool r), M := none }
theorem gw.can (x0 : ByteArray) (x1 : ByteArray) (r : Bool) (hr : gw x0 x1 = some r) : qao Tryz.prog 138 [.lit (.string x0), .lit (.string x1)] [] (gw.out x0 x1 r) := by
 unfold gw at hr;have hΓ := qae (P := Tryz.prog);refine cw Tryz.func138 rfl (by kernel_rfl) rfl rfl (by simp) fun _ _ _ => ?_;refine tq hΓ [] [] ?_;obtain ⟨h2, hr⟩ := Lg hr;refine tq hΓ [4] [0, 1] ?_ (by simp [h2]; exact rr);obtain rfl := La hr;exact AWp.ret (Ld (by simp))
@[simp] noncomputable def gw.S : Sp
  | [.lit (.string x0), .lit (.string x1)], _ => some { av := .lit (.bool ((gw x0 x1).getD dflt)), M := none, obl := (gw x0 x1).isSome = true }
  | _, _ => none
theorem gw.ok : qap Tryz.prog 138 gw.S := by
 intro l M out h;unfold gw.S at h;split at h
 ·rename_i x0 x1;cases h;refine qad fun ho => ?_;have hs := ho;obtain ⟨r, hr⟩ := so1 hs;simp only [hr, gd1];have q := Lf (M := M) [] (gw.can x0 x1 r hr) (by simp) rfl ixn;exact qac q trivial (by simp) (by simp [qaa]) (by simp [qaa])
 ·cases h
@[simp] def gac.out (_x0 : ByteArray) (_x1 : ByteArray) (r : Bool) : Out := { av := .lit (.bool r), M := none }
theorem gac.can (x0 : ByteArray) (x1 : ByteArray) (r : Bool) (hr : gac x0 x1 = some r) : qao Tryz.prog 120 [.lit (.string x0), .lit (.string x1)] [] (gac.out x0 x1 r) := by
 unfold gac at hr;have hΓ := (qab gw.ok (qae) : qbc Tryz.prog _);refine cw Tryz.func120 rfl (by kernel_rfl) rfl rfl (by simp) fun _ _ _ => ?_;refine tq hΓ [] [] ?_;obtain ⟨r1, h2, hr⟩ := Lb hr;refine tq hΓ [4] [0, 1] ?_ (by simp [h2]; exact rr);obtain rfl := La hr;exact AWp.ret (Ld (by simp))
@[simp] noncomputable def gac.S : Sp
  | [.lit (.string x0), .lit (.string x1)], _ => some { av := .lit (.bool ((gac x0 x1).getD dflt)), M := none, obl := (gac x0 x1).isSome = true }
  | _, _ => none
theorem gac.ok : qap Tryz.prog 120 gac.S := by
 intro l M out h;unfold gac.S at h;split at h
 ·rename_i x0 x1;cases h;refine qad fun ho => ?_;have hs := ho;obtain ⟨r, hr⟩ := so1 hs;simp only [hr, gd1];have q := Lf (M := M) [] (gac.can x0 x1 r hr) (by simp) rfl ixn;exact qac q trivial (by simp) (by simp [qaa]) (by simp [qaa])
 ·cases h
@[simp] def gaq.out (_x0 : Int) (r : Int) : Out := { av := .lit (.int .i64 r), M := none }
theorem gaq.can (x0 : Int) (r : Int) (hr : gaq x0 = some r) : qao Tryz.prog 119 [.lit (.int .i32 x0)] [] (gaq.out x0 r) := by
 unfold gaq at hr;have hΓ := (qab gIsDigit.ok (qab gIsLetter.ok (qae)) : qbc Tryz.prog _);refine cw Tryz.func119 rfl (by kernel_rfl) rfl rfl (by simp) fun _ _ _ => ?_;refine tq hΓ [] [] ?_;refine AWp.seq ?_;refine AWp.block ?_;refine tq hΓ [3] [] ?_;refine AWp.cnd hr (by simp) (fun h6 hr => ?_) (fun h6 hr => ?_)
 ·refine tq hΓ [2] [3, 0] ?_ (by simp [h6]; exact rr);obtain rfl := La hr;exact AWp.ret (Ld (by simp))
 ·obtain ⟨h7, hr⟩ := Lg hr;refine tq hΓ [14] [3] ?_ (by simp [h6, h7]; exact rr);refine AWp.cnd hr (by simp) (fun h8 hr => ?_) (fun h8 hr => ?_)
  ·refine tq hΓ [2] [14, 0] ?_ (by simp [h8]; exact rr);obtain rfl := La hr;exact AWp.ret (Ld (by simp))
  ·obtain ⟨h9, hr⟩ := Lg hr;refine tq hΓ [17] [14, 0] ?_ (by simp [h7, h8]; exact rr);refine AWp.cnd hr (by simp) (fun h10 hr => ?_) (fun h10 hr => ?_)
   ·refine tq hΓ [2] [17] ?_ (by simp [h10]; exact rr);obtain rfl := La hr;exact AWp.ret (Ld (by simp))
   ·refine AWp.skip ?_;refine tq hΓ [2] [17] ?_ (by simp [h10]; exact rr);obtain rfl := La hr;exact AWp.ret (Ld (by simp))
@[simp] noncomputable def gaq.S : Sp
  | [.lit (.int .i32 x0)], _ => some { av := .lit (.int .i64 ((gaq x0).getD dflt)), M := none, obl := (gaq x0).isSome = true }
  | _, _ => none
theorem gaq.ok : qap Tryz.prog 119 gaq.S := by
 intro l M out h;unfold gaq.S at h;split at h
 ·rename_i x0;cases h;refine qad fun ho => ?_;have hs := ho;obtain ⟨r, hr⟩ := so1 hs;simp only [hr, gd1];have q := Lf (M := M) [] (gaq.can x0 r hr) (by simp) rfl ixn;exact qac q trivial (by simp) (by simp [qaa]) (by simp [qaa])
 ·cases h
@[simp] def gE.out (_x0 : ByteArray) (r : Int) : Out := { av := .lit (.int .i64 r), M := none }
def gE.fin (x0 : ByteArray) (r : Int) (σ : St) : Prop := finK (gE.out x0 r) [] σ.M (resA Tryz.ty σ.A σ.M Tryz.f79.results.toList)
theorem gE.can (x0 : ByteArray) (r : Int) (hr : gE x0 = some r) : qao Tryz.prog 79 [.lit (.string x0)] [] (gE.out x0 r) := by
 unfold gE at hr;have hΓ := (qab gaq.ok (qab gac.ok (qae)) : qbc Tryz.prog _);refine cw Tryz.func79 rfl (by kernel_rfl) rfl rfl (by simp) fun _ _ _ => ?_;refine tq hΓ [] [] ?_;refine AWp.seq ?_;refine tq hΓ [14] [] ?_;refine AWp.cnd hr (by simp) (fun h8 hr => ?_) (fun h8 hr => ?_)
 ·refine tq hΓ [2] [14, 0] ?_ (by simp [h8]; exact rr);obtain rfl := La hr;exact AWp.ret (Ld (by simp))
 ·refine AWp.skip ?_;refine tq hΓ [3, 4] [14] ?_ (by simp [h8]; exact rr);refine AWp.seq ?_;refine tq hΓ [16] [] ?_ (by simp; exact rr);refine AWp.loopE (fun (s1 : Int × Int × Nat) (γ1 : Unit) => ⟨[⟨16, none, .it 0⟩, ⟨3, none, .n s1.1⟩, ⟨4, none, .n s1.2.1⟩, ⟨0, none, .s x0⟩], [.iter x0 s1.2.2]⟩) (fun (v1 : Int × Int) (γ1a : Unit) => ⟨[⟨3, none, .n v1.1⟩, ⟨4, none, .n v1.2⟩], [.dead]⟩) (gE.fin x0) hr () 1 (by simp) (fun s1 f γ1 hr => ?_) (fun v1 γ1a σ1 m1 hr hc => ?_) (fun _ h => h)
  ·unfold gE.loop1 at hr;cases h9 : (nextB x0 s1.2.2) with
   | true =>
     have hr := cond_t h9 hr;refine tq hΓ [17, 18] [] ?_ (by simp [h9]; exact rr);refine AWp.seq ?_;refine AWp.cond (b := true) (by simp) (fun hb => ?_) (fun hb => ?_)
     ·refine AWp.skip ?_;refine AWp.block ?_;refine tq hΓ [5, 6] [17, 18] ?_ (by simp; exact rr);obtain ⟨r1, h10, hr⟩ := Lb hr;refine tq hΓ [7] [] ?_ (by simp [h10]; exact rr);refine AWp.seq ?_;obtain ⟨h11, hr⟩ := Lg hr;obtain ⟨h12, hr⟩ := Lg hr;refine tq hΓ [43] [5, 6, 4] ?_ (by simp [h11, h12]; exact rr);refine AWp.cnd hr (by simp) (fun h13 hr => ?_) (fun h13 hr => ?_)
      ·refine tq hΓ [2] [43, 7, 16, 3, 0] ?_ (by simp [h13]; exact rr);refine AWp.ret ?_;obtain rfl := La hr;refine round_ret ?_;refine Ld ?_;simp
      ·refine AWp.skip ?_;refine tl hΓ [3, 4] [43, 7] ?_ (by simp [h13]; exact rr);obtain rfl := La hr;exact Lq () 1 (by first | (simp; done) | simp [h8, h9, h10, h11, h12, h13])
     ·cases hb
   | false =>
     have hr := cond_f h9 hr;refine tq hΓ [17, 18] [] ?_ (by simp [h9]; exact rr);refine AWp.seq ?_;refine AWp.cond (b := false) (by simp) (fun hb => ?_) (fun hb => ?_)
     ·cases hb
     ·refine AWp.exit ?_;obtain rfl := La hr;exact Ln () 1 (by first | (simp; done) | simp [h8, h9])
  ·refine AWp.conv hc ?_;refine AWp.seq ?_;refine tq hΓ [52] [3, 4] ?_ (by simp; exact rr);refine AWp.cnd hr (by simp) (fun h14 hr => ?_) (fun h14 hr => ?_)
   ·refine tq hΓ [2] [52] ?_ (by simp [h14]; exact rr);obtain rfl := La hr;exact AWp.ret (Ld (by simp))
   ·refine AWp.skip ?_;refine tq hΓ [2] [52] ?_ (by simp [h14]; exact rr);obtain rfl := La hr;exact AWp.ret (Ld (by simp))
@[simp] noncomputable def gE.S : Sp
  | [.lit (.string x0)], _ => some { av := .lit (.int .i64 ((gE x0).getD dflt)), M := none, obl := (gE x0).isSome = true }
  | _, _ => none
theorem gE.ok : qap Tryz.prog 79 gE.S := by
 intro l M out h;unfold gE.S at h;split at h
 ·rename_i x0;cases h;refine qad fun ho => ?_;have hs := ho;obtain ⟨r, hr⟩ := so1 hs;simp only [hr, gd1];have q := Lf (M := M) [] (gE.can x0 r hr) (by simp) rfl ixn;exact qac q trivial (by simp) (by simp [qaa]) (by simp [qaa])
 ·cases h
@[simp] def gV.out (_x0 : ByteArray) (r : ByteArray) : Out := { av := .lit (.string r), M := none }
def gV.fin (x0 : ByteArray) (r : ByteArray) (σ : St) : Prop := finK (gV.out x0 r) [] σ.M (resA Tryz.ty σ.A σ.M Tryz.f90.results.toList)
theorem gV.can (x0 : ByteArray) (r : ByteArray) (hr : gV x0 = some r) : qao Tryz.prog 90 [.lit (.string x0)] [] (gV.out x0 r) := by
 unfold gV at hr;have hΓ := (qab ga8.String.ok (qab ga8.WriteRune.ok (qab gToLower.ok (qae))) : qbc Tryz.prog _);refine cw Tryz.func90 rfl (by kernel_rfl) rfl rfl (by simp) fun _ _ _ => ?_;refine tq hΓ [] [] ?_;refine AWp.then ⟨[⟨3, none, .ptr 0 0⟩, ⟨0, none, .s x0⟩], [.opq (wrO 141 5 [])]⟩ (ga8.alloc rfl rfl rfl rfl (by kernel_rfl) rfl (dead := []) (by simp [exS])) ?_;refine AWp.seq ?_;refine tq hΓ [7] [0] ?_;refine AWp.loopE (fun (s1 : List Int × Nat) (γ1 : Unit) => ⟨[⟨7, none, .it 1⟩, ⟨3, none, .ptr 0 0⟩], [.opq (wrO 141 5 s1.1), .iter x0 s1.2]⟩) (fun (v1 : List Int) (γ1a : Unit) => ⟨[⟨3, none, .ptr 0 0⟩], [.opq (wrO 141 5 v1), .dead]⟩) (gV.fin x0) hr () 2 (by simp) (fun s1 f γ1 hr => ?_) (fun v1 γ1a σ1 m1 hr hc => ?_) (fun _ h => h)
 ·unfold gV.loop1 at hr;cases h5 : (nextB x0 s1.2) with
  | true =>
    have hr := cond_t h5 hr;refine tq hΓ [8, 9] [] ?_ (by simp [h5]; exact rr);refine AWp.seq ?_;refine AWp.cond (b := true) (by simp) (fun hb => ?_) (fun hb => ?_)
    ·refine AWp.skip ?_;refine AWp.block ?_;refine tq hΓ [5] [8, 9] ?_ (by simp; exact rr);obtain ⟨h6, hr⟩ := Lg hr;obtain ⟨h7, hr⟩ := Lg hr;refine tl hΓ [] [5] ?_ (by simp [h6, h7]; exact rr);obtain rfl := La hr;exact Lq () 2 (by first | (simp; done) | simp [h5, h6, h7])
    ·cases hb
  | false =>
    have hr := cond_f h5 hr;refine tq hΓ [8, 9] [] ?_ (by simp [h5]; exact rr);refine AWp.seq ?_;refine AWp.cond (b := false) (by simp) (fun hb => ?_) (fun hb => ?_)
    ·cases hb
    ·refine AWp.exit ?_;obtain rfl := La hr;exact Ln () 2 (by first | (simp; done) | simp [h5])
 ·refine AWp.conv hc ?_;obtain ⟨h8, hr⟩ := Lg hr;refine tq hΓ [2] [3] ?_ (by simp [h8]; exact rr);obtain rfl := La hr;exact AWp.ret (Ld (by simp))
@[simp] noncomputable def gV.S : Sp
  | [.lit (.string x0)], _ => some { av := .lit (.string ((gV x0).getD dflt)), M := none, obl := (gV x0).isSome = true }
  | _, _ => none
theorem gV.ok : qap Tryz.prog 90 gV.S := by
 intro l M out h;unfold gV.S at h;split at h
 ·rename_i x0;cases h;refine qad fun ho => ?_;have hs := ho;obtain ⟨r, hr⟩ := so1 hs;simp only [hr, gd1];have q := Lf (M := M) [] (gV.can x0 r hr) (by simp) rfl ixn;exact qac q trivial (by simp) (by simp [qaa]) (by simp [qaa])
 ·cases h
@[simp] def gag.out (_x0 : ByteArray) (_x1 : ByteArray) (r : Bool) : Out := { av := .lit (.bool r), M := none }
theorem gag.can (x0 : ByteArray) (x1 : ByteArray) (r : Bool) (hr : gag x0 x1 = some r) : qao Tryz.prog 41 [.lit (.string x0), .lit (.string x1)] [] (gag.out x0 x1 r) := by
 unfold gag at hr;have hΓ := (qab gV.ok (qae) : qbc Tryz.prog _);refine cw Tryz.func41 rfl (by kernel_rfl) rfl rfl (by simp) fun _ _ _ => ?_;refine tq hΓ [] [] ?_;obtain ⟨r1, h3, hr⟩ := Lb hr;obtain ⟨r2, h4, hr⟩ := Lb hr;refine tq hΓ [4] [0, 1] ?_ (by simp [h3, h4]; exact rr);obtain rfl := La hr;exact AWp.ret (Ld (by simp))
@[simp] noncomputable def gag.S : Sp
  | [.lit (.string x0), .lit (.string x1)], _ => some { av := .lit (.bool ((gag x0 x1).getD dflt)), M := none, obl := (gag x0 x1).isSome = true }
  | _, _ => none
theorem gag.ok : qap Tryz.prog 41 gag.S := by
 intro l M out h;unfold gag.S at h;split at h
 ·rename_i x0 x1;cases h;refine qad fun ho => ?_;have hs := ho;obtain ⟨r, hr⟩ := so1 hs;simp only [hr, gd1];have q := Lf (M := M) [] (gag.can x0 x1 r hr) (by simp) rfl ixn;exact qac q trivial (by simp) (by simp [qaa]) (by simp [qaa])
 ·cases h
end Go.Proofs
end
section
namespace Go.Proofs
open Go.Ab Go.Lib
abbrev Pr := Ta
theorem walk {S T : Type} {body : S → Option (Fl S T)} (st : Nat → S) : ∀ n : Nat, (∀ i, i < n → body (st i) = some (.go (st (i + 1)))) → loopF body (st 0) = loopF body (st n)
 | 0, _ => rfl
 | n + 1, h => by
   rw [walk st n fun i hi => h i (by omega), loopF_eq, h n (by omega)]
theorem walk_out {S T : Type} {body : S → Option (Fl S T)} (st : Nat → S) {n : Nat} {t : T} (h : ∀ i, i < n → body (st i) = some (.go (st (i + 1)))) (h2 : body (st n) = some (.out t)) : loopF body (st 0) = some t := by
 rw [walk st n h, loopF_eq, h2]
theorem qah {α : Type} [Inhabited α] {l : List α} {i : Nat} (h : i < l.length) : nthI l (i : Int) = l[i] := by
 simp [nthI, List.getD, h]
theorem inB_at {α : Type} {l : List α} {i : Nat} (h : i < l.length) : InB (i : Int) (qat l) := ⟨by omega, by unfold qat; omega⟩
theorem Lr {i : Nat} (h : i < 1000000000) : addI .i64 (i : Int) 1 = ((i + 1 : Nat) : Int) := by rw [addI_n (by omega) (by omega)]; omega
theorem take_next {α : Type} {l : List α} {i : Nat} (h : i < l.length) : l.take (i + 1) = l.take i ++ [l[i]] := by simp
noncomputable def inL (L : List Pr) (room : ByteArray) : List Pr := L.filter fun p => eqS (foldS p.fm) (foldS room)
noncomputable def roomsL (L : List Pr) : List ByteArray := L.map fun p => foldS p.fm
def entL (L : List Pr) : List (Int × Pr) := L.map fun p => (p.fN, p)
def idsL (L : List Pr) : List Int := L.map fun p => p.fN
theorem keys_ent (L : List Pr) : keysM (entL L) = idsL L := by simp [keysM, entL, idsL, Function.comp_def]
theorem inL_app (L : List Pr) (p : Pr) (room : ByteArray) : inL (L ++ [p]) room = if eqS (foldS p.fm) (foldS room) = true then inL L room ++ [p] else inL L room := by
 unfold inL;rw [List.filter_append];cases h : eqS (foldS p.fm) (foldS room) <;> simp [h]
theorem inL_len (L : List Pr) (room : ByteArray) : (inL L room).length ≤ L.length := List.length_filter_le _ _
structure Tbl (L : List Pr) (nx : Int) : Prop where
 up : (idsL L).Pairwise (· < ·)
 rng : ∀ p ∈ L, 0 ≤ p.fN ∧ p.fN < nx
 num : 0 ≤ nx ∧ nx ≤ 65536
 len : (L.length : Int) ≤ nx
 room : ∀ p ∈ L, goodB (scan p.fm 0) = true ∧ p.fm.size ≤ 1000
 name : ∀ p ∈ L, goodB (scan p.fp 0) = true ∧ p.fp.size ≤ 1000
 few : ∀ s, (inL L s).length ≤ 16
 rooms : (nubL (roomsL L)).length ≤ 8
theorem Tbl.nodup {L : List Pr} {nx : Int} (h : Tbl L nx) : (idsL L).Nodup := h.up.imp fun h => by omega
theorem Tbl.nd {L : List Pr} {nx : Int} (h : Tbl L nx) : (keysM (entL L)).Nodup := by rw [keys_ent]; exact h.nodup
theorem Tbl.get {L : List Pr} {nx : Int} (h : Tbl L nx) {p : Pr} (hp : p ∈ L) (z : Pr) : getM eqI p.fN z (entL L) = p := getM_of h.nd (List.mem_map.2 ⟨p, hp, rfl⟩)
theorem Tbl.sort {L : List Pr} {nx : Int} (h : Tbl L nx) : sortL (keysM (entL L)) = idsL L := by
 rw [keys_ent];exact sortL_of (.refl _) (h.up.imp fun h => by omega)
theorem Tbl.keysB {L : List Pr} {nx : Int} (h : Tbl L nx) : KeysB (keysM (entL L)) := by
 rw [keys_ent];have h1 := h.num;have h2 := h.len;refine KeysB_of (fun x hx => ?_) (by simp only [idsL, List.length_map]; omega);obtain ⟨p, hp, rfl⟩ := List.mem_map.1 hx;have := h.rng p hp;omega
theorem ids_at {L : List Pr} {i : Nat} (h : i < L.length) : nthI (idsL L) (i : Int) = (L[i]).fN := by
 rw [qah (by simpa [idsL] using h)];simp [idsL]
theorem ids_len (L : List Pr) : qat (idsL L) = (L.length : Int) := by simp [qat, idsL]
theorem in_d {L : List Pr} {nx : Int} (h : Tbl L nx) {room : ByteArray} (hr : room.size ≤ 1000000) (h0 : qar room ≠ []) : gG (Tp.mk (entL L) nx) room = some (inL L room) := by
  have h1 := h.num;have h2 := h.len;unfold gG
  have w : loopF (gG.loop1 (Tp.mk (entL L) nx) room) (0, []) = some (.go (inL L room)) := by
   refine walk_out (n := L.length) (fun i => ((i : Int), inL (L.take i) room)) (fun i hi => ?_) ?_
   · have hm : L[i] ∈ L := List.getElem_mem hi;obtain ⟨g1, g2⟩ := h.room _ hm
     have hl : ((inL (L.take i) room).length : Int) ≤ 65536 := by
       have := inL_len (L.take i) room;simp only [List.length_take] at this;omega
     unfold gG.loop1;simp only;rw [h.sort, ltI_t (by rw [ids_len]; omega), cond_true, Lh ⟨by omega, by rw [ids_len]; omega⟩, ids_at hi, h.get hm, same_d (by omega) hr (good_ne g1) h0, Le, take_next hi, inL_app, Lr (by omega)];cases eqS (foldS L[i].fm) (foldS room) with
     | true =>
       simp only [cond_true, if_true];rw [Lh (show AppB (qat (inL (L.take i) room)) 1 40 from ⟨by unfold qat; omega, by unfold qat; omega⟩)];rfl
     | false => simp only [cond_false, Bool.false_eq_true, if_false]
   · unfold gG.loop1;simp only;rw [h.sort, ltI_f (by rw [ids_len]; omega), cond_false, List.take_length]
  rw [Lh h.keysB, w]; rfl
structure Doc (L : List Pr) : Prop where
 len : L.length ≤ 65536
 size : ∀ p ∈ L, p.fm.size ≤ 1000 ∧ p.fp.size ≤ 1000
theorem Tbl.doc {L : List Pr} {nx : Int} (h : Tbl L nx) : Doc L := ⟨by have := h.num; have := h.len; omega, fun p hp => ⟨(h.room p hp).2, (h.name p hp).2⟩⟩
theorem Doc.take {L : List Pr} (h : Doc L) (i : Nat) : Doc (L.take i) := ⟨by have := h.len; simp only [List.length_take]; omega, fun p hp => h.size p (List.mem_of_mem_take hp)⟩
theorem rin_d {L : List Pr} (h : Doc L) {nx : Int} {room : ByteArray} (hr : room.size ≤ 1000000) : gaU (Tq.mk L nx) room = some (inL L room) := by
  have h2 := h.len;unfold gaU
  have w : loopF (gaU.loop1 (Tq.mk L nx) room) (0, []) = some (.go (inL L room)) := by
   refine walk_out (n := L.length) (fun i => ((i : Int), inL (L.take i) room)) (fun i hi => ?_) ?_
   · have hm : L[i] ∈ L := List.getElem_mem hi;have g2 := (h.size _ hm).1
     have hl : ((inL (L.take i) room).length : Int) ≤ 65536 := by
       have := inL_len (L.take i) room;simp only [List.length_take] at this;omega
     unfold gaU.loop1;simp only;rw [ltI_t (by unfold qat; omega), cond_true, Lh (inB_at hi), qah hi, rfold_d (by omega), Le, rfold_d hr, Le, take_next hi, inL_app, Lr (by omega)];cases eqS (foldS L[i].fm) (foldS room) with
     | true =>
       simp only [cond_true, if_true];rw [Lh (show AppB (qat (inL (L.take i) room)) 1 40 from ⟨by unfold qat; omega, by unfold qat; omega⟩)];rfl
     | false => simp only [cond_false, Bool.false_eq_true, if_false]
   · unfold gaU.loop1;simp only;rw [ltI_f (by unfold qat; omega), cond_false, List.take_length]
  rw [w]; rfl
theorem folds_ent {L : List Pr} {nx : Int} (h : Tbl L nx) : foldsM (entL L) = roomsL L := by
 unfold foldsM entL roomsL;rw [List.map_map];refine List.map_congr_left fun p hp => ?_;obtain ⟨g1, g2⟩ := h.room p hp;simp only [Function.comp];rw [fold_d (by omega) (good_ne g1)]; rfl
theorem rooms_d {L : List Pr} {nx : Int} (h : Tbl L nx) : gS (Tp.mk (entL L) nx) = some (sortS (nubL (roomsL L))) := by
 have h1 : ∀ e ∈ entL L, (gV e.2.fm).isSome = true := fun e he => by
  obtain ⟨p, hp, rfl⟩ := List.mem_map.1 he;obtain ⟨g1, g2⟩ := h.room p hp;simp only;rw [fold_d (by omega) (good_ne g1)]; rfl
 have h2 : KeysBS (roomsL L) := by
  refine ⟨fun x hx => ?_, ?_⟩
  ·obtain ⟨p, hp, rfl⟩ := List.mem_map.1 hx;have := (h.room p hp).2;have := fold_size p.fm;simp only [maxLen]; omega
  ·have := h.num;have := h.len;simp only [roomsL, List.length_map]; omega
 unfold gS gaK;simp only;rw [Lh h1, folds_ent h, Lh h2];rfl
theorem sortS_len (l : List ByteArray) : (sortS l).length = l.length := by simp [sortS]
theorem nub_snoc {l : List ByteArray} {f : List ByteArray} (hn : f.Nodup) (hm : ∀ y, y ∈ f ↔ y ∈ l) : f.length = (nubL l).length := by
 have : f.Perm (nubL l) := (List.perm_ext_iff_of_nodup hn (nodup_nubL l)).2 fun y => by rw [hm, mem_nubL]
 exact this.length_eq
theorem inL_nil {L : List Pr} {room : ByteArray} : inL L room = [] ↔ foldS room ∉ roomsL L := by
 unfold inL roomsL;rw [List.filter_eq_nil_iff, List.mem_map];constructor
 ·rintro h ⟨p, hp, e⟩;exact h p hp ((eqS_iff _ _).2 e)
 ·intro h p hp e;exact h ⟨p, hp, (eqS_iff _ _).1 e⟩
noncomputable def fst (L : List Pr) : Nat → List ByteArray
 | 0 => []
 | i + 1 => match L[i]? with
   | some p => if inL (L.take i) p.fm = [] then fst L i ++ [foldS p.fm] else fst L i
   | none => fst L i
theorem fst_ok (L : List Pr) : ∀ i, i ≤ L.length → (fst L i).Nodup ∧ ∀ y, y ∈ fst L i ↔ y ∈ roomsL (L.take i)
 | 0, _ => ⟨by simp [fst], fun y => by simp [fst, roomsL]⟩
 | i + 1, h => by
   obtain ⟨h1, h2⟩ := fst_ok L i (by omega);have hi : i < L.length := by omega
   have hl : L[i]? = some L[i] := List.getElem?_eq_getElem hi;have e : roomsL (L.take (i + 1)) = roomsL (L.take i) ++ [foldS L[i].fm] := by unfold roomsL; rw [take_next hi, List.map_append]; rfl
   rw [fst, hl, e];simp only;split
   ·rename_i hn;have hx := inL_nil.1 hn;refine ⟨List.nodup_append.2 ⟨h1, by simp, fun a ha b hb => ?_⟩, fun y => by rw [List.mem_append, List.mem_append, h2 y]⟩;rw [List.mem_singleton.1 hb];intro q;exact hx ((h2 _).1 (q ▸ ha))
   ·rename_i hn;refine ⟨h1, fun y => ?_⟩;rw [h2 y, List.mem_append, List.mem_singleton];refine ⟨.inl, fun q => q.elim id fun q => ?_⟩;rw [q];exact Classical.byContradiction fun hx => hn (inL_nil.2 hx)
theorem fst_len (L : List Pr) : (fst L L.length).length = (nubL (roomsL L)).length := by
 obtain ⟨h1, h2⟩ := fst_ok L L.length (Nat.le_refl _);exact nub_snoc h1 fun y => by rw [h2 y, List.take_length]
theorem fst_le (L : List Pr) : ∀ i, (fst L i).length ≤ i
 | 0 => by simp [fst]
 | i + 1 => by
   have := fst_le L i;rw [fst];split
   ·split
    ·simp only [List.length_append, List.length_cons, List.length_nil]; omega
    ·omega
   ·omega
theorem rrooms_d {L : List Pr} (h : Doc L) {nx : Int} : gaL (Tq.mk L nx) = some (fst L L.length) := by
  have h2 := h.len;unfold gaL
  have w : loopF (gaL.loop1 (Tq.mk L nx)) (0, []) = some (.go (fst L L.length)) := by
   refine walk_out (n := L.length) (fun i => ((i : Int), fst L i)) (fun i hi => ?_) ?_
   · have hm : L[i] ∈ L := List.getElem_mem hi;have g2 := (h.size _ hm).1;have hl : L[i]? = some L[i] := List.getElem?_eq_getElem hi;have hf := fst_le L i;have hc : cutL L 0 (i : Int) = L.take i := by simp [cutL]
     unfold gaL.loop1;simp only;rw [ltI_t (by unfold qat; omega), cond_true, Lh (inB_at hi), Lh (show CutB 0 (i : Int) (qat L) from ⟨by omega, by omega, by unfold qat; omega⟩), qah hi, hc, rin_d (h.take i) (by omega), Le, Lr (by omega)];rw [fst, hl];simp only;by_cases hn : inL (L.take i) L[i].fm = []
     · rw [if_pos hn, hn, eqI_t (by rfl), cond_true, rfold_d (by omega), Le, Lh (show AppB (qat (fst L i)) 1 16 from ⟨by unfold qat; omega, by unfold qat; omega⟩)];rfl
     · have : (inL (L.take i) L[i].fm).length ≠ 0 := fun q => hn (List.eq_nil_of_length_eq_zero q);rw [if_neg hn, eqI_f (by unfold qat; omega), cond_false]
   · unfold gaL.loop1;simp only;rw [ltI_f (by unfold qat; omega), cond_false]
  rw [w]; rfl
end Go.Proofs
end
