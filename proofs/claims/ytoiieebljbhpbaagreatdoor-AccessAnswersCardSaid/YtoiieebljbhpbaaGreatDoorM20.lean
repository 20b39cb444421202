/- That these functions compute what their plain functions do. No condition. -/
import Derived.Test.YtoiieebljbhpbaaGreatDoorM11
import Derived.Test.YtoiieebljbhpbaaGreatDoorTy
import Derived.Test.YtoiieebljbhpbaaGreatDoorM06
import Derived.Test.YtoiieebljbhpbaaGreatDoorM02
import Derived.Test.YtoiieebljbhpbaaGreatDoorXb
import Derived.Test.YtoiieebljbhpbaaGreatDoorXa
import Derived.Test.YtoiieebljbhpbaaGreatDoorHa
import Derived.Test.YtoiieebljbhpbaaGreatDoorM04
import Derived.Test.YtoiieebljbhpbaaGreatDoorAv
import Derived.Test.YtoiieebljbhpbaaGreatDoorM10
section
set_option maxHeartbeats 4000000
namespace Go.Proofs
open Go.Ab
@[simp] def gE.out (_x0 : Int) (r : Th) : Out := { av := .ptr 5 0, M := some [.mapo (encM (kI .i64) (vA Ta.enc) r.fb.fe), .blk [.mp 0, .lit (.int .i64 r.fb.fj)], .mapo (encM (vA Tc.enc) (vA Te.enc) r.fc), .mapo (encM (vA Tb.enc) (vA Tg.enc) r.ff), .mapo (encM (kI .u32) (vA Tf.enc) r.fg), .blk [.ptr 1 0, .mp 2, .mp 3, .mp 4]] }
def gE.fin (x0 : Int) (r : Th) (σ : St) : Prop := finK (gE.out x0 r) [] σ.M (resA Tryz.ty σ.A σ.M Tryz.f18.results.toList)
set_option maxRecDepth 100000 in
theorem gE.can (x0 : Int) (r : Th) (hr : gE x0 = some r) : CallOk Tryz.prog 18 [.lit (.int .i64 x0)] [] (gE.out x0 r) := by
 unfold gE at hr
 have hΓ := (gamL_cons gf.ok (gamL_cons gV.ok (gamL_nil)) : GamOk Tryz.prog _)
 refine cw Tryz.func18 rfl (by kernel_rfl) rfl rfl (by simp) fun _ _ _ => ?_
 refine tq hΓ [] [] ?_
 obtain ⟨r1, h6, hr⟩ := Ld hr
 refine tq hΓ [3] [] ?_ (by simp [h6]; exact rr)
 refine AWp.seq ?_
 refine tq hΓ [14] [] ?_ (by simp; exact rr)
 refine AWp.cond (b := false) (by simp) (fun hb => ?_) (fun hb => ?_)
 ·cases hb
 ·refine AWp.skip ?_
  refine AWp.seq ?_
  refine tq hΓ [17, 18] [14, 0] ?_ (by simp; exact rr)
  refine AWp.loopE (fun (s1 : Int × (List (Int × Ta)) × Int × (List (Tc × Te)) × (List (Tb × Tg)) × (List (Int × Tf))) (γ1 : Unit) => ⟨[⟨17, none, .n (minI (maxI x0 0) 6)⟩, ⟨18, none, .n s1.1⟩, ⟨3, none, .ptr 5 0⟩], [.mapo (encM (kI .i64) (vA Ta.enc) s1.2.1), .blk [.mp 0, .n s1.2.2.1], .mapo (encM (vA Tc.enc) (vA Te.enc) s1.2.2.2.1), .mapo (encM (vA Tb.enc) (vA Tg.enc) s1.2.2.2.2.1), .mapo (encM (kI .u32) (vA Tf.enc) s1.2.2.2.2.2), .blk [.ptr 1 0, .mp 2, .mp 3, .mp 4]]⟩) (fun (v1 : (List (Int × Ta)) × Int × (List (Tc × Te)) × (List (Tb × Tg)) × (List (Int × Tf))) (γ1a : Unit) => ⟨[⟨3, none, .ptr 5 0⟩], [.mapo (encM (kI .i64) (vA Ta.enc) v1.1), .blk [.mp 0, .n v1.2.1], .mapo (encM (vA Tc.enc) (vA Te.enc) v1.2.2.1), .mapo (encM (vA Tb.enc) (vA Tg.enc) v1.2.2.2.1), .mapo (encM (kI .u32) (vA Tf.enc) v1.2.2.2.2), .blk [.ptr 1 0, .mp 2, .mp 3, .mp 4]]⟩) (gE.fin x0) hr () 6 (by simp) (fun s1 f γ1 hr => ?_) (fun v1 γ1a σ1 m1 hr hc => ?_) (fun _ h => h)
  ·unfold gE.loop1 at hr
   refine tq hΓ [19] [] ?_ (by simp; exact rr)
   refine AWp.seq ?_
   refine AWp.cnd hr (by simp) (fun h7 hr => ?_) (fun h7 hr => ?_)
   ·refine AWp.skip ?_
    refine AWp.seq ?_
    refine AWp.block ?_
    refine tq hΓ [4] [19] ?_ (by simp [h7]; exact rr)
    obtain ⟨h8, hr⟩ := Lg hr
    obtain ⟨r2, h9, hr⟩ := Ld hr
    refine tq hΓ [] [] ?_ (by simp [h8, h9]; exact rr)
    obtain ⟨r3, h10, hr⟩ := Ld hr
    refine tl hΓ [] [4] ?_ (by simp [h10]; exact rr)
    refine tl hΓ [18] [] ?_ (by simp; exact rr)
    obtain rfl := La hr
    exact Lq () 6 (by first | (simp; done) | simp [h6, h7, h8, h9, h10])
   ·refine AWp.exit ?_
    obtain rfl := La hr
    exact Lo () 6 (by first | (simp; done) | simp [h6, h7])
  ·refine AWp.conv hc ?_
   refine tq hΓ [2] [3] ?_ (by simp; exact rr)
   obtain rfl := La hr
   exact AWp.ret (Le (by simp))

@[simp] noncomputable def gE.S : Sp
  | [.lit (.int .i64 x0)], M => some { av := .ptr (M.length + 5) 0, M := some (M ++ [.mapo (encM (kI .i64) (vA Ta.enc) (((gE x0).getD dflt).fb.fe)), .blk [.mp M.length, .lit (.int .i64 (((gE x0).getD dflt).fb.fj))], .mapo (encM (vA Tc.enc) (vA Te.enc) (((gE x0).getD dflt).fc)), .mapo (encM (vA Tb.enc) (vA Tg.enc) (((gE x0).getD dflt).ff)), .mapo (encM (kI .u32) (vA Tf.enc) (((gE x0).getD dflt).fg)), .blk [.ptr (M.length + 1) 0, .mp (M.length + 2), .mp (M.length + 3), .mp (M.length + 4)]]), obl := (gE x0).isSome = true }
  | _, _ => none

theorem gE.ok : SpecOk Tryz.prog 18 gE.S := by
 intro l M out h
 unfold gE.S at h
 split at h
 ·rename_i x0
  cases h
  refine callOk_of fun ho => ?_
  have hs := ho
  obtain ⟨r, hr⟩ := so1 hs
  simp only [hr, gd1]
  have q := Lh (M := M) [] (gE.can x0 r hr) (by simp) rfl ixn
  exact callOk_conv q trivial (by simp) (by simp [frameOut, into]) (by simp [frameOut, into])
 ·cases h

@[simp] def gU.out  (r : Bool) : Out := { av := .lit (.bool r), M := none }
set_option maxRecDepth 100000 in
theorem gU.can  (r : Bool) (hr : gU = some r) : CallOk Tryz.prog 17 [] [] (gU.out  r) := by
 unfold gU at hr
 have hΓ := (gamL_cons gf.ok (gamL_cons gg.ok (gamL_cons gq.ok (gamL_cons gI.ok (gamL_cons gE.ok (gamL_nil))))) : GamOk Tryz.prog _)
 refine cw Tryz.func17 rfl (by kernel_rfl) rfl rfl (by simp) fun _ _ _ => ?_
 refine tq hΓ [] [] ?_
 obtain ⟨r1, h9, hr⟩ := Ld hr
 refine tq hΓ [1] [] ?_ (by simp [h9]; exact rr)
 refine AWp.seq ?_
 obtain ⟨h10, hr⟩ := Lg hr
 refine tq hΓ [17] [] ?_ (by simp [h10]; exact rr)
 refine AWp.cnd hr (by simp) (fun h11 hr => ?_) (fun h11 hr => ?_)
 ·refine tq hΓ [0] [17, 1] ?_ (by simp [h11]; exact rr)
  obtain rfl := La hr
  exact AWp.ret (Le (by simp))
 ·refine AWp.skip ?_
  obtain ⟨r2, h12, hr⟩ := Ld hr
  refine tq hΓ [3] [17] ?_ (by simp [h11, h12]; exact rr)
  obtain ⟨r3, h13, hr⟩ := Ld hr
  refine tq hΓ [4, 5] [] ?_ (by simp [h13]; exact rr)
  obtain ⟨r4, h14, hr⟩ := Ld hr
  refine tq hΓ [6] [] ?_ (by simp [h14]; exact rr)
  obtain ⟨r5, h15, hr⟩ := Ld hr
  refine tq hΓ [] [] ?_ (by simp [h15]; exact rr)
  obtain ⟨h16, hr⟩ := Lg hr
  refine tq hΓ [0] [6, 4, 5, 3, 1] ?_ (by simp [h16]; exact rr)
  obtain rfl := La hr
  exact AWp.ret (Le (by simp))

@[simp] noncomputable def gU.S : Sp
  | [], _ => some { av := .lit (.bool (gU.getD dflt)), M := none, obl := gU.isSome = true }
  | _, _ => none

theorem gU.ok : SpecOk Tryz.prog 17 gU.S := by
 intro l M out h
 unfold gU.S at h
 split at h
 ·cases h
  refine callOk_of fun ho => ?_
  have hs := ho
  obtain ⟨r, hr⟩ := so1 hs
  simp only [hr, gd1]
  have q := Lh (M := M) [] (gU.can r hr) (by simp) rfl ixn
  exact callOk_conv q trivial (by simp) (by simp [frameOut]) (by simp [frameOut])
 ·cases h

end Go.Proofs
end
section
namespace Go.Proofs
open Go.Ab Go.Lib

theorem find_app {L : List Pr} {a : Int} {p q : Pr} (h : findL L a = some q) : findL (L ++ [p]) a = some q := by
 unfold findL at *
 rw [List.find?_append, h]; rfl
theorem find_join {L : List Pr} {nx : Int} {r s : ByteArray} {a : Int} {q : Pr} (h : findL L a = some q) : findL (joinL L nx r s).1 a = some q := by
 unfold joinL
 split
 ·split
  ·exact h
  ·split
   ·exact h
   ·exact find_app h
 ·exact h
theorem tog_of {L L' : List Pr} (h : ∀ a q, findL L a = some q → findL L' a = some q) {a b : Int} (ht : togL L a b = true) : togL L' a b = true := by
 unfold togL at *
 cases ha : findL L a with
 | none => rw [ha] at ht; simp at ht
 | some p =>
   cases hb : findL L b with
   | none => rw [ha, hb] at ht; simp at ht
   | some q =>
     rw [h a p ha, h b q hb]
     rw [ha, hb] at ht
     exact ht
theorem find_leave {L : List Pr} {n a : Int} (h : a ≠ n) : findL (leaveL L n) a = findL L a := by
 unfold findL leaveL
 induction L with
 | nil => rfl
 | cons p L ih =>
   rw [List.filter_cons]
   by_cases hp : p.fN = n
   ·have h1 : neI p.fN n = false := neI_f hp
    have h2 : eqI p.fN a = false := eqI_f (by omega)
    rw [h1, List.find?_cons, h2]
    simpa using ih
   ·have h1 : neI p.fN n = true := neI_t hp
    rw [h1]
    simp only [if_true, List.find?_cons, ih]
theorem tog_leave {L : List Pr} {n a b : Int} (ha : a ≠ n) (hb : b ≠ n) : togL (leaveL L n) a b = togL L a b := by
 unfold togL
 rw [find_leave ha, find_leave hb]
theorem ltSb_lnk {a b a' b' : Sb} (h1 : lnk a = lnk a') (h2 : lnk b = lnk b') : ltSb a b = ltSb a' b' := by
 simp only [lnk, Tb.mk.injEq, Tc.mk.injEq] at h1 h2
 unfold ltSb
 rw [h1.1, h1.2.1, h1.2.2, h2.1, h2.2.1, h2.2.2]
theorem upd_lnk {S : List Sb} {l : Tb} {f : Sb → Sb} (hf : ∀ s, lnk (f s) = lnk s) {s' : Sb} (h : s' ∈ updS S l f) : ∃ s ∈ S, lnk s' = lnk s := by
 obtain ⟨s, hs, rfl⟩ := List.mem_map.1 h
 refine ⟨s, hs, ?_⟩
 split
 ·exact hf s
 ·rfl
theorem upd_up {S : List Sb} (hu : S.Pairwise fun a b => ltSb a b = true) {l : Tb} {f : Sb → Sb} (hf : ∀ s, lnk (f s) = lnk s) : (updS S l f).Pairwise fun a b => ltSb a b = true := by
 unfold updS
 rw [List.pairwise_map]
 have key : ∀ s : Sb, lnk (if Tb.eq l (lnk s) = true then f s else s) = lnk s := fun s => by
  split
  ·exact hf s
  ·rfl
 exact hu.imp fun {a b} h => by rw [ltSb_lnk (key a) (key b)]; exact h
theorem upd_len (S : List Sb) (l : Tb) (f : Sb → Sb) : (updS S l f).length = S.length := by simp [updS]

section
variable {n : Nat} {L : List Pr} {nx : Int} {T : List Tk} {S : List Sb} {m m' : List (Tb × Tg)}
theorem Acc.mono (h : Acc n L nx T S m) (hn : n + 1 ≤ 1000) (hp : m'.Perm (subL S)) : Acc (n + 1) L nx T S m' :=
 ⟨h.tbl, hn, by have := h.tlen; omega, by have := h.slen; omega, h.tnd, h.snd, h.tss, h.up, hp, h.own, h.sub⟩
theorem Acc.subs (h : Acc n L nx T S m) (hn : n + 1 ≤ 1000) {S' : List Sb} (hl : S'.length ≤ S.length) (hu : S'.Pairwise fun a b => ltSb a b = true) (hs : ∀ s' ∈ S', ∃ s ∈ S, lnk s' = lnk s) (hp : m'.Perm (subL S')) : Acc (n + 1) L nx T S' m' :=
 ⟨h.tbl, hn, by have := h.tlen; omega, by have := h.slen; omega, h.tnd, h.snd, h.tss, hu, hp, h.own, fun s' hs' => by
  obtain ⟨s, h1, h2⟩ := hs s' hs'
  simp only [lnk, Tb.mk.injEq, Tc.mk.injEq] at h2
  rw [h2.1, h2.2.1, h2.2.2]
  exact h.sub s h1⟩
theorem hasT_sub {T T' : List Tk} {k : Tc} (h : ∀ t ∈ T, keyT t = k → t ∈ T') (ht : hasT T k = true) : hasT T' k = true := by
 obtain ⟨t, h1, h2⟩ := hasT_iff.1 ht
 exact hasT_iff.2 ⟨t, h t h1 h2, h2⟩
theorem Acc.join (h : Acc n L nx T S m) (hn : n + 1 ≤ 1000) {r s : ByteArray} (hr : r.size ≤ 1000) (hs : s.size ≤ 1000) (hp : m'.Perm (subL S)) : Acc (n + 1) (joinL L nx r s).1 (joinL L nx r s).2.1 T S m' :=
 ⟨h.tbl.join hr hs, hn, by have := h.tlen; omega, by have := h.slen; omega, h.tnd, h.snd, h.tss, h.up, hp, fun t ht => by
  obtain ⟨h1, h2⟩ := h.own t ht
  obtain ⟨q, hq⟩ := Option.isSome_iff_exists.1 h1
  rw [find_join hq]
  exact ⟨rfl, h2⟩, fun x hx => ⟨(h.sub x hx).1, tog_of (fun a q hq => find_join hq) (h.sub x hx).2⟩⟩
theorem Acc.leave (h : Acc n L nx T S m) (hn : n + 1 ≤ 1000) (p : Int) (hp : m'.Perm (subL (lvS S p))) : Acc (n + 1) (leaveL L p) nx (rmN T p 4) (lvS S p) m' := by
 have s1 := rmN_sub T p 4
 have s2 := lvS_sub S p
 have hne : ∀ t ∈ T, (∀ j : Nat, j < 4 → keyT t ≠ ⟨p, (j : Int)⟩) → t.fd ≠ p := fun t ht hj e => by
  obtain ⟨_, h2, h3⟩ := h.own t ht
  refine hj t.fN.toNat (by omega) ?_
  unfold keyT
  rw [e, Int.toNat_of_nonneg h2]
 refine ⟨h.tbl.leave p, hn, by have := h.tlen; have := s1.length_le; omega, by have := h.slen; have := s2.length_le; omega, h.tnd.sublist (s1.map _), h.snd.sublist (all_sub s1), fun t ht => h.tss t (s1.subset ht), h.up.sublist s2, hp, fun t ht => ?_, fun s hs => ?_⟩
 ·obtain ⟨h1, h2⟩ := rmN_mem.1 ht
  rw [find_leave (hne t h1 h2)]
  exact h.own t h1
 ·obtain ⟨h1, h2, h3⟩ := lvS_mem.1 hs
  obtain ⟨h4, h5⟩ := h.sub s h1
  obtain ⟨t, h6, h7⟩ := hasT_iff.1 h4
  have h8 : t.fd ≠ p := hne t h6 fun j hj => by rw [h7]; exact h2 j hj
  have h9 : s.fd ≠ p := by
   have := congrArg Tc.fd h7
   simp only [keyT] at this
   rw [← this]; exact h8
  refine ⟨hasT_iff.2 ⟨t, rmN_mem.2 ⟨h6, fun j hj => by rw [h7]; exact h2 j hj⟩, h7⟩, ?_⟩
  rw [tog_leave h3 h9]; exact h5
theorem Acc.publish (h : Acc n L nx T S m) (hn : n + 1 ≤ 1000) {c : Cm} (hc : c.fa.Nodup) (hl : c.fa.length ≤ 3) (hf : (findL L c.fd).isSome = true) (ht : 0 ≤ c.fh ∧ c.fh ≤ 3) (hp : m'.Perm (subL S)) : Acc (n + 1) L nx (pubR T c).1 S m' := by
 unfold pubR
 split
 ·exact h.mono hn hp
 ·rename_i h1
  split
  ·exact h.mono hn hp
  ·rename_i h2
   refine ⟨h.tbl, hn, by have := h.tlen; simp only [List.length_append, List.length_cons, List.length_nil]; omega, by have := h.slen; omega, ?_, ?_, ?_, h.up, hp, ?_, ?_⟩
   ·rw [List.map_append, List.nodup_append]
    refine ⟨h.tnd, by simp, fun a ha b hb => ?_⟩
    obtain ⟨t, h3, rfl⟩ := List.mem_map.1 ha
    simp only [List.map_cons, List.map_nil, List.mem_singleton] at hb
    subst hb
    intro e
    exact h1 (hasT_iff.2 ⟨t, h3, e⟩)
   ·rw [all_app, List.nodup_append]
    refine ⟨h.snd, hc, fun a ha b hb e => ?_⟩
    subst e
    exact h2 (List.any_eq_true.2 ⟨a, hb, src_has.2 ha⟩)
   ·intro t ht
    rcases List.mem_append.1 ht with ht | ht
    ·exact h.tss t ht
    ·rw [List.mem_singleton.1 ht]; exact hl
   ·intro t ht'
    rcases List.mem_append.1 ht' with ht' | ht'
    ·exact h.own t ht'
    ·rw [List.mem_singleton.1 ht']
     exact ⟨hf, ht.1, by show c.fh < 4; omega⟩
   ·intro s hs
    obtain ⟨h3, h4⟩ := h.sub s hs
    exact ⟨hasT_sub (fun t ht _ => List.mem_append_left _ ht) h3, h4⟩
theorem Acc.subscribe (h : Acc n L nx T S m) (hn : n + 1 ≤ 1000) {c : Cm} (hp : m'.Perm (subL (subR L T S c).1)) : Acc (n + 1) L nx T (subR L T S c).1 m' := by
 unfold subR at *
 split at hp
 ·rename_i h1; rw [if_pos h1]; exact h.mono hn hp
 ·rename_i h1
  rw [if_neg h1]
  split at hp
  ·rename_i h2; rw [if_pos h2]; exact h.mono hn hp
  ·rename_i h2
   rw [if_neg h2]
   split at hp
   ·rename_i h3; rw [if_pos h3]; exact h.mono hn hp
   ·rename_i h3
    rw [if_neg h3]
    split at hp
    ·rename_i h4
     rw [if_pos h4]
     exact h.subs hn (by rw [upd_len]; exact Nat.le_refl _) (upd_up h.up (layS_lnk _)) (fun s' hs' => upd_lnk (layS_lnk _) hs') hp
    ·rename_i h4
     rw [if_neg h4]
     split at hp
     ·rename_i h5; rw [if_pos h5]; exact h.mono hn hp
     ·rename_i h5
      rw [if_neg h5]
      have hlen := (ins_perm (newS c) S).length_eq
      simp only [List.length_cons] at hlen
      refine ⟨h.tbl, hn, by have := h.tlen; omega, by have := h.slen; simp only; omega, h.tnd, h.snd, h.tss, ins_up h.up fun y hy e => h4 (hasS_iff.2 ⟨y, hy, e⟩), hp, h.own, fun s hs => ?_⟩
      rcases List.mem_cons.1 ((ins_perm (newS c) S).mem_iff.1 hs) with rfl | hs
      ·simp only [newS]
       exact ⟨by simpa using h3, by simpa using h2⟩
      ·exact h.sub s hs
theorem Acc.link (h : Acc n L nx T S m) (hn : n + 1 ≤ 1000) {c : Cm} (hp : m'.Perm (subL (lnkR S c).1)) : Acc (n + 1) L nx T (lnkR S c).1 m' := by
 unfold lnkR at *
 split at hp
 ·rename_i h1; rw [if_pos h1]; exact h.mono hn hp
 ·rename_i h1
  rw [if_neg h1]
  split at hp
  ·rename_i h2
   rw [if_pos h2]
   exact h.subs hn (List.length_filter_le _ _) (h.up.sublist List.filter_sublist) (fun s' hs' => ⟨s', (List.mem_filter.1 hs').1, rfl⟩) hp
  ·rename_i h2
   rw [if_neg h2]
   exact h.subs hn (by rw [upd_len]; exact Nat.le_refl _) (upd_up h.up (onS_lnk _)) (fun s' hs' => upd_lnk (onS_lnk _) hs') hp
theorem upd_has (T : List Tk) (k k' : Tc) (b : Bool) : hasT (updT T k b) k' = hasT T k' := by
 rw [Bool.eq_iff_iff, hasT_iff, hasT_iff]
 have := upd_key T k b
 have e : ∀ U : List Tk, (∃ t ∈ U, keyT t = k') ↔ k' ∈ U.map keyT := fun U => by rw [List.mem_map]
 rw [e, e, this]
theorem Acc.track (h : Acc n L nx T S m) (hn : n + 1 ≤ 1000) {c : Cm} (hp : m'.Perm (subL (trkR T S c).2.1)) : Acc (n + 1) L nx (trkR T S c).1 (trkR T S c).2.1 m' := by
 unfold trkR at *
 split at hp
 ·rename_i h1; rw [if_pos h1]; exact h.mono hn hp
 ·rename_i h1
  rw [if_neg h1]
  split at hp
  ·rename_i h2
   rw [if_pos h2]
   have s1 := rm_sub T ⟨c.fd, c.fh⟩
   have s2 : (rmS S ⟨c.fd, c.fh⟩).Sublist S := List.filter_sublist
   refine ⟨h.tbl, hn, by have := h.tlen; have := s1.length_le; simp only; omega, by have := h.slen; have := s2.length_le; simp only; omega, h.tnd.sublist (s1.map _), h.snd.sublist (all_sub s1), fun t ht => h.tss t (s1.subset ht), h.up.sublist s2, hp, fun t ht => h.own t (s1.subset ht), fun s hs => ?_⟩
   obtain ⟨h3, h4⟩ := rmS_mem.1 hs
   obtain ⟨h5, h6⟩ := h.sub s h3
   refine ⟨hasT_sub (fun t ht e => rm_mem.2 ⟨ht, fun q => h4 ?_⟩) h5, h6⟩
   rw [← q, e]; rfl
  ·rename_i h2
   rw [if_neg h2]
   refine ⟨h.tbl, hn, by have := h.tlen; simp only [updT, List.length_map]; omega, by have := h.slen; simp only; omega, by simp only; rw [upd_key]; exact h.tnd, by simp only; rw [upd_all]; exact h.snd, fun t ht => ?_, h.up, hp, fun t ht => ?_, fun s hs => ?_⟩
   ·obtain ⟨u, hu, rfl⟩ := List.mem_map.1 ht
    have := h.tss u hu
    split
    ·exact this
    ·exact this
   ·obtain ⟨u, hu, rfl⟩ := List.mem_map.1 ht
    have := h.own u hu
    split
    ·exact this
    ·exact this
   ·simp only
    rw [upd_has]; exact h.sub s hs
end
theorem Acc.does {n : Nat} {x : St4} {m m' : List (Tb × Tg)} (h : Acc n x.L x.nx x.T x.S m) (hn1 : n + 1 ≤ 1000) {c : Cm} (hr : c.fm.size ≤ 1000) (hn : c.fp.size ≤ 1000) (hl : c.fa.length ≤ 1000) {v : Int} (hv : gab c = some v) (hp : m'.Perm (subL (doM x c v).1.S)) :
  Acc (n + 1) (doM x c v).1.L (doM x c v).1.nx (doM x c v).1.T (doM x c v).1.S m' := by
 obtain ⟨w, hw, hval⟩ := check_some c hr hn (by omega)
 rw [hv] at hw
 cases hw
 unfold doM at *
 split at hp
 ·rename_i h0; rw [if_pos h0]; exact h.mono hn1 hp
 ·rename_i h0
  rw [if_neg h0]
  have h0 : v = 0 := Classical.byContradiction fun q => h0 q
  subst h0
  split at hp
  ·rename_i h1; rw [if_pos h1]; exact h.join hn1 hr hn hp
  ·rename_i h1
   rw [if_neg h1]
   split at hp
   ·rename_i h2; rw [if_pos h2]; exact h.mono hn1 hp
   ·rename_i h2
    rw [if_neg h2]
    split at hp
    ·rename_i h3; rw [if_pos h3]; exact h.leave hn1 _ hp
    ·rename_i h3
     rw [if_neg h3]
     split at hp
     ·rename_i h4
      rw [if_pos h4]
      have hc := valid_check (hval rfl) hr hn
      rw [if_pos h4, hv] at hc
      have ht : 0 ≤ c.fh ∧ c.fh ≤ 3 := by
       cases hval rfl <;> simp only at h4 ⊢ <;> omega
      exact h.publish hn1 (sources_nd hl hc.symm) (sources_len hc.symm).2 (by cases q : (findL x.L c.fd).isSome with | true => rfl | false => exact absurd q h2) ht hp
     ·rename_i h4
      rw [if_neg h4]
      split at hp
      ·rename_i h5; rw [if_pos h5]; exact h.subscribe hn1 hp
      ·rename_i h5
       rw [if_neg h5]
       split at hp
       ·rename_i h6; rw [if_pos h6]; exact h.link hn1 hp
       ·rename_i h6; rw [if_neg h6]; exact h.track hn1 hp
theorem Acc.new : Acc 0 [] 0 [] [] [] :=
 ⟨Tbl.new, by omega, by simp, by simp, by simp, by simp [allS], (fun _ h => by cases h), .nil, .refl _, (fun _ h => by cases h), (fun _ h => by cases h)⟩
end Go.Proofs
end
section
namespace Go.Proofs
open Go.Ab Go.Lib
theorem walk_rel {S T : Type} {body : S → Option (Fl S T)} (I : Nat → S → Prop) (Q : T → Prop) (n : Nat) (h : ∀ i s, i < n → I i s → ∃ s', body s = some (.go s') ∧ I (i + 1) s') (he : ∀ s, I n s → ∃ t, body s = some (.out t) ∧ Q t) {s : S} (hs : I 0 s) : ∃ t, loopF body s = some t ∧ Q t := by
 have key : ∀ k i s, i + k = n → I i s → ∃ t, loopF body s = some t ∧ Q t := by
  intro k
  induction k with
  | zero =>
    intro i s hi hI
    have : i = n := by omega
    subst this
    obtain ⟨t, h1, h2⟩ := he s hI
    exact ⟨t, by rw [loopF_eq, h1], h2⟩
  | succ k ih =>
    intro i s hi hI
    obtain ⟨s', h1, h2⟩ := h i s (by omega) hI
    obtain ⟨t, h3, h4⟩ := ih (i + 1) s' (by omega) h2
    exact ⟨t, by rw [loopF_eq, h1]; exact h3, h4⟩
 exact key n 0 s (by omega) hs
def Rl (n : Nat) (x : St4) (a : Th) : Prop := ∃ m, Acc n x.L x.nx x.T x.S m ∧ a = stA x.L x.nx x.T m
theorem Rl.step {n : Nat} {x : St4} {a : Th} (h : Rl n x a) (hn1 : n + 1 ≤ 1000) {c : Cm} (hr : c.fm.size ≤ 1000) (hn : c.fp.size ≤ 1000) (hl : c.fa.length ≤ 1000) {v : Int} (hv : gab c = some v) :
  ∃ a', gf a c = some ((doM x c v).2.1, (doM x c v).2.2, a') ∧ Rl (n + 1) (doM x c v).1 a' ∧ gaK (rfA x.L x.nx x.T x.S) c = some (rfA (doM x c v).1.L (doM x c v).1.nx (doM x c v).1.T (doM x c v).1.S, (doM x c v).2.1, (doM x c v).2.2) := by
 obtain ⟨m, h1, rfl⟩ := h
 obtain ⟨m', h2, h3⟩ := do_d h1 hr hn hl hv
 exact ⟨_, h2, ⟨m', h1.does hn1 hr hn hl hv h3, rfl⟩, rdo_d h1 hr hn hl hv⟩
theorem Rl.new : Rl 0 ⟨[], 0, [], []⟩ (stA [] 0 [] []) := ⟨[], Acc.new, rfl⟩
theorem new_d : gV = some (stA [] 0 [] []) := rfl
theorem eta_A (a : Th) : Th.mk (Tj.mk a.fb.fe a.fb.fj) a.fc a.ff a.fg = a := by cases a; rfl

/-! ### Few -/
theorem lcut_d (s : ByteArray) {n : Int} (h0 : 0 ≤ n) : ∃ t, gaj s n = some t ∧ (t.size : Int) ≤ n := by
 unfold gaj
 by_cases h : n < lenS s
 ·rw [ltI_t h]
  refine ⟨cutS s 0 n, ?_, ?_⟩
  ·simp only [cond_true]
   rw [Lf ⟨Int.le_refl _, h0, by omega⟩]
  ·rw [← bytesOf_len, cutS_b]
   simp only [List.length_take]
   omega
 ·rw [ltI_f h]
  refine ⟨s, rfl, ?_⟩
  unfold lenS at h
  omega
theorem few_d (c : Cm) : ∃ d, gZ c = some d ∧ d.fm.size ≤ 1000 ∧ d.fp.size ≤ 1000 ∧ d.fa.length ≤ 1000 := by
 obtain ⟨r, h1, h2⟩ := lcut_d c.fm (n := 70) (by omega)
 obtain ⟨n, h3, h4⟩ := lcut_d c.fp (n := 70) (by omega)
 unfold gZ
 rw [h1, h3]
 simp only [Lc]
 by_cases h : 5 < lenL c.fa
 ·rw [ltI_t h, Lf (show CutB _ _ _ from ⟨by omega, by omega, by omega⟩)]
  refine ⟨_, rfl, (show r.size ≤ 1000 by omega), (show n.size ≤ 1000 by omega), ?_⟩
  show (cutL c.fa 0 5).length ≤ 1000
  unfold cutL
  simp only [List.length_take]
  omega
 ·rw [ltI_f h]
  refine ⟨_, rfl, (show r.size ≤ 1000 by omega), (show n.size ≤ 1000 by omega), ?_⟩
  show c.fa.length ≤ 1000
  unfold lenL at h
  omega

/-! ### Who wants a track -/
def wantsL (S : List Sb) (k : Tc) : List Int := (S.filter fun s => ofK k s).map fun s => s.fu
theorem wants_next {S : List Sb} {i : Nat} (hi : i < S.length) (k : Tc) : wantsL (S.take (i + 1)) k = if ofK k S[i] = true then wantsL (S.take i) k ++ [S[i].fu] else wantsL (S.take i) k := by
 unfold wantsL
 rw [take_next hi, List.filter_append, List.map_append]
 cases h : ofK k S[i] <;> simp [h]
theorem wants_len (S : List Sb) (k : Tc) : (wantsL S k).length ≤ S.length := by
 unfold wantsL
 rw [List.length_map]
 exact List.length_filter_le _ _
theorem wants_d {n : Nat} {x : St4} {m : List (Tb × Tg)} (h : Acc n x.L x.nx x.T x.S m) (k : Tc) : gk (stA x.L x.nx x.T m) k = some (wantsL x.S k) := by
 have hsl := h.slen
 have hnn := h.nn
 unfold gk
 rw [links_d h.prm h.up (by omega), Lc]
 have w : loopF (gk.loop1 k (x.S.map lnk)) (0, []) = some (.go (wantsL x.S k)) := by
  refine walk_out (n := x.S.length) (fun i => ((i : Int), wantsL (x.S.take i) k)) (fun i hi => ?_) ?_
  ·have hw := wants_len (x.S.take i) k
   simp only [List.length_take] at hw
   have hat : nthI (x.S.map lnk) (i : Int) = lnk x.S[i] := by rw [nthI_at (by simpa using hi), List.getElem_map]
   unfold gk.loop1
   simp only
   rw [ltI_t (by unfold lenL; rw [List.length_map]; omega), cond_true, Lf (inB_at (by simpa using hi)), hat, Lm (by omega), Lf (show AppB (lenL (wantsL (x.S.take i) k)) 1 8 from ⟨by unfold lenL; omega, by unfold lenL; omega⟩), wants_next hi]
   have e : pickB (eqI (lnk x.S[i]).fOf.fd k.fd) (eqI (lnk x.S[i]).fOf.fh k.fh) false = ofK k x.S[i] := by
    rw [pickB_and]; rfl
   rw [e]
   cases ofK k x.S[i] <;> rfl
  ·unfold gk.loop1
   simp only
   rw [ltI_f (by unfold lenL; rw [List.length_map]; omega), cond_false, List.take_length]
 rw [w]; rfl

/-! ### A track, a source -/
theorem track_d {n : Nat} {x : St4} {m : List (Tb × Tg)} (h : Acc n x.L x.nx x.T x.S m) (k : Tc) : gu (stA x.L x.nx x.T m) k = some (trkV (findT x.T k), hasT x.T k) := by
 obtain ⟨h1, h2⟩ := trk_get k x.T
 unfold gu
 simp only
 rw [h1, h2]
 have : (trkV (findT x.T k)).fa.length ≤ 3 := by
  cases hf : findT x.T k with
  | none => simp [trkV]
  | some t => exact h.tss t (findT_mem hf).1
 rw [Lf (show AppB 0 (lenL (trkV (findT x.T k)).fa) 4 from ⟨by unfold lenL; omega, by unfold lenL; omega⟩)]
theorem source_d {n : Nat} {x : St4} {m : List (Tb × Tg)} (h : Acc n x.L x.nx x.T x.S m) {t : Tk} (ht : t ∈ x.T) {j : Nat} (hj : j < t.fa.length) : gq (stA x.L x.nx x.T m) t.fa[j] = some (⟨keyT t, (j : Int)⟩, true) := by
 unfold gq
 simp only
 rw [src_get h.snd ht hj, src_has.2 (allS_mem.2 ⟨t, ht, List.getElem_mem hj⟩)]

/-! ### Is it the document's? -/
theorem neB_self (b : Bool) : neB b b = false := by cases b <;> rfl
end Go.Proofs
end
