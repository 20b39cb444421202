/- That these functions compute what their plain functions do. No condition. -/
import Derived.Test.YtoiieebljbhpbaaGreatDoorM14
import Derived.Test.YtoiieebljbhpbaaGreatDoorTy
import Derived.Test.YtoiieebljbhpbaaGreatDoorM06
import Derived.Test.YtoiieebljbhpbaaGreatDoorM02
import Derived.Test.YtoiieebljbhpbaaGreatDoorXb
import Derived.Test.YtoiieebljbhpbaaGreatDoorXa
import Derived.Test.YtoiieebljbhpbaaGreatDoorM20
import Derived.Test.YtoiieebljbhpbaaGreatDoorAy
section
namespace Go.Proofs
open Go.Ab
@[simp] def gl.out (_x0 : Int) (_x1 : Int) (r : Bool) : Out := { av := .lit (.bool r), M := none }
def gl.fin (x0 : Int) (x1 : Int) (r : Bool) (σ : St) : Prop := finK (gl.out x0 x1 r) [] σ.M (resA Tryz.ty σ.A σ.M Tryz.f4.results.toList)
set_option maxHeartbeats 4000000 in
set_option maxRecDepth 100000 in
theorem gl.can (x0 : Int) (x1 : Int) (r : Bool) (hr : gl x0 x1 = some r) : CallOk Tryz.prog 4 [.lit (.int .i64 x0), .lit (.int .i64 x1)] [] (gl.out x0 x1 r) := by
 unfold gl at hr
 have hΓ := (gamL_cons gf.ok (gamL_cons gg.ok (gamL_cons gM.ok (gamL_cons gE.ok (gamL_cons gU.ok (gamL_nil))))) : GamOk Tryz.prog _)
 refine cw Tryz.func4 rfl (by kernel_rfl) rfl rfl (by simp) fun _ _ _ => ?_
 refine tq hΓ [] [] ?_
 refine AWp.seq ?_
 obtain ⟨r1, h19, hr⟩ := Ld hr
 refine tq hΓ [21] [] ?_ (by simp [h19]; exact rr)
 refine AWp.cnd hr (by simp) (fun h20 hr => ?_) (fun h20 hr => ?_)
 ·refine tq hΓ [4] [21, 0, 1] ?_ (by simp [h20]; exact rr)
  obtain rfl := La hr
  exact AWp.ret (Le (by simp))
 ·refine AWp.skip ?_
  obtain ⟨r2, h21, hr⟩ := Ld hr
  refine tq hΓ [5] [21] ?_ (by simp [h20, h21]; exact rr)
  refine AWp.seq ?_
  refine tq hΓ [24] [] ?_ (by simp; exact rr)
  refine AWp.cond (b := false) (by simp) (fun hb => ?_) (fun hb => ?_)
  ·cases hb
  ·refine AWp.skip ?_
   refine AWp.seq ?_
   refine tq hΓ [6] [24] ?_ (by simp; exact rr)
   refine AWp.loopE (fun (s1 : Int × (List (Int × Ta)) × Int × (List (Tc × Te)) × (List (Tb × Tg)) × (List (Int × Tf))) (γ1 : Unit) => ⟨[⟨6, none, .n s1.1⟩, ⟨5, none, .ptr 5 0⟩, ⟨0, none, .n x0⟩, ⟨1, none, .n x1⟩], [.mapo (encM (kI .i64) (vA Ta.enc) s1.2.1), .blk [.mp 0, .n s1.2.2.1], .mapo (encM (vA Tc.enc) (vA Te.enc) s1.2.2.2.1), .mapo (encM (vA Tb.enc) (vA Tg.enc) s1.2.2.2.2.1), .mapo (encM (kI .u32) (vA Tf.enc) s1.2.2.2.2.2), .blk [.ptr 1 0, .mp 2, .mp 3, .mp 4]]⟩) (fun (v1 : (List (Int × Ta)) × Int × (List (Tc × Te)) × (List (Tb × Tg)) × (List (Int × Tf))) (γ1a : Unit) => ⟨[⟨5, none, .ptr 5 0⟩, ⟨0, none, .n x0⟩, ⟨1, none, .n x1⟩], [.mapo (encM (kI .i64) (vA Ta.enc) v1.1), .blk [.mp 0, .n v1.2.1], .mapo (encM (vA Tc.enc) (vA Te.enc) v1.2.2.1), .mapo (encM (vA Tb.enc) (vA Tg.enc) v1.2.2.2.1), .mapo (encM (kI .u32) (vA Tf.enc) v1.2.2.2.2), .blk [.ptr 1 0, .mp 2, .mp 3, .mp 4]]⟩) (gl.fin x0 x1) hr () 6 (by simp) (fun s1 f γ1 hr => ?_) (fun v1 γ1a σ1 m1 hr hc => ?_) (fun _ h => h)
   ·unfold gl.loop1 at hr
    refine AWp.seq ?_
    refine tq hΓ [26] [] ?_ (by simp; exact rr)
    refine AWp.cnd hr (by simp) (fun h22 hr => ?_) (fun h22 hr => ?_)
    ·refine AWp.skip ?_
     refine AWp.seq ?_
     refine AWp.block ?_
     refine tq hΓ [7] [26] ?_ (by simp [h22]; exact rr)
     refine AWp.loopE (fun (s2 : Int × (List (Int × Ta)) × Int × (List (Tc × Te)) × (List (Tb × Tg)) × (List (Int × Tf))) (γ2 : Unit) => ⟨[⟨7, none, .n s2.1⟩, ⟨6, none, .n s1.1⟩, ⟨5, none, .ptr 5 0⟩, ⟨0, none, .n x0⟩, ⟨1, none, .n x1⟩], [.mapo (encM (kI .i64) (vA Ta.enc) s2.2.1), .blk [.mp 0, .n s2.2.2.1], .mapo (encM (vA Tc.enc) (vA Te.enc) s2.2.2.2.1), .mapo (encM (vA Tb.enc) (vA Tg.enc) s2.2.2.2.2.1), .mapo (encM (kI .u32) (vA Tf.enc) s2.2.2.2.2.2), .blk [.ptr 1 0, .mp 2, .mp 3, .mp 4]]⟩) (fun (v2 : (List (Int × Ta)) × Int × (List (Tc × Te)) × (List (Tb × Tg)) × (List (Int × Tf))) (γ2a : Unit) => ⟨[⟨6, none, .n s1.1⟩, ⟨5, none, .ptr 5 0⟩, ⟨0, none, .n x0⟩, ⟨1, none, .n x1⟩], [.mapo (encM (kI .i64) (vA Ta.enc) v2.1), .blk [.mp 0, .n v2.2.1], .mapo (encM (vA Tc.enc) (vA Te.enc) v2.2.2.1), .mapo (encM (vA Tb.enc) (vA Tg.enc) v2.2.2.2.1), .mapo (encM (kI .u32) (vA Tf.enc) v2.2.2.2.2), .blk [.ptr 1 0, .mp 2, .mp 3, .mp 4]]⟩) (QRr (gl.fin x0 x1)) hr () 6 (by simp) (fun s2 f γ2 hr => ?_) (fun v2 γ2a σ1 m1 hr hc => ?_) (fun _ h => QRr_ret h)
     ·unfold gl.loop2 at hr
      refine AWp.seq ?_
      refine tq hΓ [30] [] ?_ (by simp; exact rr)
      refine AWp.cnd hr (by simp) (fun h23 hr => ?_) (fun h23 hr => ?_)
      ·refine AWp.skip ?_
       refine AWp.seq ?_
       refine AWp.block ?_
       obtain ⟨r3, h24, hr⟩ := Ld hr
       refine tq hΓ [9] [30] ?_ (by simp [h23, h24]; exact rr)
       refine tq hΓ [49] [9] ?_ (by simp; exact rr)
       refine AWp.cnd hr (by simp) (fun h25 hr => ?_) (fun h25 hr => ?_)
       ·refine tq hΓ [4] [49, 7, 6, 5, 0, 1] ?_ (by simp [h25]; exact rr)
        refine AWp.ret ?_
        obtain rfl := La hr
        refine round_ret ?_
        refine ⟨_, rfl, ?_⟩
        refine Le ?_
        simp
       ·refine AWp.skip ?_
        refine tl hΓ [7] [49] ?_ (by simp [h25]; exact rr)
        obtain rfl := La hr
        exact Lq () 6 (by first | (simp; done) | simp [h19, h20, h21, h22, h23, h24, h25])
      ·refine AWp.exit ?_
       obtain rfl := La hr
       exact Lo () 6 (by first | (simp; done) | simp [h19, h20, h21, h22, h23])
     ·refine AWp.conv hc ?_
      refine tl hΓ [6] [] ?_ (by simp; exact rr)
      obtain rfl := La hr
      exact Lq () 6 (by first | (simp; done) | simp [h19, h20, h21, h22])
    ·refine AWp.exit ?_
     obtain rfl := La hr
     exact Lo () 6 (by first | (simp; done) | simp [h19, h20, h21, h22])
   ·refine AWp.conv hc ?_
    refine tq hΓ [10] [] ?_ (by simp; exact rr)
    refine AWp.seq ?_
    refine tq hΓ [11] [] ?_ (by simp; exact rr)
    refine AWp.loopE (fun (s3 : Int × Int × (List (Int × Ta)) × Int × (List (Tc × Te)) × (List (Tb × Tg)) × (List (Int × Tf))) (γ3 : Unit) => ⟨[⟨11, none, .n s3.1⟩, ⟨10, none, .n s3.2.1⟩, ⟨5, none, .ptr 5 0⟩, ⟨0, none, .n x0⟩, ⟨1, none, .n x1⟩], [.mapo (encM (kI .i64) (vA Ta.enc) s3.2.2.1), .blk [.mp 0, .n s3.2.2.2.1], .mapo (encM (vA Tc.enc) (vA Te.enc) s3.2.2.2.2.1), .mapo (encM (vA Tb.enc) (vA Tg.enc) s3.2.2.2.2.2.1), .mapo (encM (kI .u32) (vA Tf.enc) s3.2.2.2.2.2.2), .blk [.ptr 1 0, .mp 2, .mp 3, .mp 4]]⟩) (fun (v3 : (List (Int × Ta)) × Int × (List (Tc × Te)) × (List (Tb × Tg)) × (List (Int × Tf))) (γ3a : Unit) => ⟨[⟨5, none, .ptr 5 0⟩, ⟨0, none, .n x0⟩, ⟨1, none, .n x1⟩], [.mapo (encM (kI .i64) (vA Ta.enc) v3.1), .blk [.mp 0, .n v3.2.1], .mapo (encM (vA Tc.enc) (vA Te.enc) v3.2.2.1), .mapo (encM (vA Tb.enc) (vA Tg.enc) v3.2.2.2.1), .mapo (encM (kI .u32) (vA Tf.enc) v3.2.2.2.2), .blk [.ptr 1 0, .mp 2, .mp 3, .mp 4]]⟩) (gl.fin x0 x1) hr () 6 (by simp) (fun s3 f γ3 hr => ?_) (fun v3 γ3a σ1 m1 hr hc => ?_) (fun _ h => h)
    ·unfold gl.loop3 at hr
     refine AWp.seq ?_
     refine tq hΓ [51] [] ?_ (by simp; exact rr)
     refine AWp.cnd hr (by simp) (fun h26 hr => ?_) (fun h26 hr => ?_)
     ·refine AWp.skip ?_
      refine AWp.seq ?_
      refine AWp.block ?_
      refine tq hΓ [54] [51] ?_ (by simp [h26]; exact rr)
      refine AWp.loopE (fun (s4 : Int × Int × (List (Int × Ta)) × Int × (List (Tc × Te)) × (List (Tb × Tg)) × (List (Int × Tf))) (γ4 : Unit) => ⟨[⟨54, none, .n s4.1⟩, ⟨11, none, .n s3.1⟩, ⟨10, none, .n s4.2.1⟩, ⟨5, none, .ptr 5 0⟩, ⟨0, none, .n x0⟩, ⟨1, none, .n x1⟩], [.mapo (encM (kI .i64) (vA Ta.enc) s4.2.2.1), .blk [.mp 0, .n s4.2.2.2.1], .mapo (encM (vA Tc.enc) (vA Te.enc) s4.2.2.2.2.1), .mapo (encM (vA Tb.enc) (vA Tg.enc) s4.2.2.2.2.2.1), .mapo (encM (kI .u32) (vA Tf.enc) s4.2.2.2.2.2.2), .blk [.ptr 1 0, .mp 2, .mp 3, .mp 4]]⟩) (fun (v4 : Int × (List (Int × Ta)) × Int × (List (Tc × Te)) × (List (Tb × Tg)) × (List (Int × Tf))) (γ4a : Unit) => ⟨[⟨11, none, .n s3.1⟩, ⟨10, none, .n v4.1⟩, ⟨5, none, .ptr 5 0⟩, ⟨0, none, .n x0⟩, ⟨1, none, .n x1⟩], [.mapo (encM (kI .i64) (vA Ta.enc) v4.2.1), .blk [.mp 0, .n v4.2.2.1], .mapo (encM (vA Tc.enc) (vA Te.enc) v4.2.2.2.1), .mapo (encM (vA Tb.enc) (vA Tg.enc) v4.2.2.2.2.1), .mapo (encM (kI .u32) (vA Tf.enc) v4.2.2.2.2.2), .blk [.ptr 1 0, .mp 2, .mp 3, .mp 4]]⟩) (QRr (gl.fin x0 x1)) hr () 6 (by simp) (fun s4 f γ4 hr => ?_) (fun v4 γ4a σ1 m1 hr hc => ?_) (fun _ h => QRr_ret h)
      ·unfold gl.loop4 at hr
       refine tq hΓ [55] [] ?_ (by simp; exact rr)
       refine AWp.seq ?_
       refine AWp.cnd hr (by simp) (fun h27 hr => ?_) (fun h27 hr => ?_)
       ·refine AWp.skip ?_
        refine AWp.seq ?_
        refine AWp.block ?_
        refine tq hΓ [12] [55] ?_ (by simp [h27]; exact rr)
        obtain ⟨r4, h28, hr⟩ := Ld hr
        refine tq hΓ [14] [12] ?_ (by simp [h28]; exact rr)
        refine AWp.seq ?_
        refine tq hΓ [77] [14] ?_ (by simp; exact rr)
        refine AWp.cnd hr (by simp) (fun h29 hr => ?_) (fun h29 hr => ?_)
        ·refine tq hΓ [4] [77, 54, 11, 10, 5, 0, 1] ?_ (by simp [h29]; exact rr)
         refine AWp.ret ?_
         obtain rfl := La hr
         refine round_ret ?_
         refine ⟨_, rfl, ?_⟩
         refine Le ?_
         simp
        ·refine AWp.skip ?_
         refine tl hΓ [10] [77] ?_ (by simp [h29]; exact rr)
         refine tl hΓ [54] [] ?_ (by simp; exact rr)
         obtain rfl := La hr
         exact Lq () 6 (by first | (simp; done) | simp [h19, h20, h21, h26, h27, h28, h29])
       ·refine AWp.exit ?_
        obtain rfl := La hr
        exact Lo () 6 (by first | (simp; done) | simp [h19, h20, h21, h26, h27])
      ·refine AWp.conv hc ?_
       refine tl hΓ [11] [] ?_ (by simp; exact rr)
       obtain rfl := La hr
       exact Lq () 6 (by first | (simp; done) | simp [h19, h20, h21, h26])
     ·refine AWp.exit ?_
      obtain rfl := La hr
      exact Lo () 6 (by first | (simp; done) | simp [h19, h20, h21, h26])
    ·refine AWp.conv hc ?_
     obtain ⟨h30, hr⟩ := Lg hr
     refine tq hΓ [0] [] ?_ (by simp [h30]; exact rr)
     obtain ⟨h31, hr⟩ := Lg hr
     refine tq hΓ [1] [] ?_ (by simp [h31]; exact rr)
     obtain ⟨h32, hr⟩ := Lg hr
     obtain ⟨h33, hr⟩ := Lg hr
     refine tq hΓ [15] [0] ?_ (by simp [h32]; exact rr)
     obtain ⟨r5, h34, hr⟩ := Ld hr
     refine tq hΓ [17] [] ?_ (by simp [h34]; exact rr)
     obtain ⟨r6, h35, hr⟩ := Ld hr
     refine tq hΓ [18, 19] [15] ?_ (by simp [h35]; exact rr)
     obtain ⟨h36, hr⟩ := Lg hr
     refine tq hΓ [4] [18, 19, 17, 1, 5] ?_ (by simp [h36]; exact rr)
     obtain rfl := La hr
     exact AWp.ret (Le (by simp))

end Go.Proofs
end
section
namespace Go.Proofs
open Go.Ab Go.Lib

theorem and255 (x : Int) : bitsOp .and .i64 x 255 = x % 256 := and_mask' (j := 8) (by omega) x 255 (by decide)
theorem and3 (x : Int) : bitsOp .and .i64 x 3 = x % 4 := and_mask' (j := 2) (by omega) x 3 (by decide)
theorem remN (a : Nat) (b : Nat) : remI (a : Int) (b : Int) = ((a % b : Nat) : Int) := by
 unfold remI
 rw [Int.tmod_eq_emod_of_nonneg (by omega)]; omega
theorem quoN {a b : Nat} (h : a < 1000000) (hb : 0 < b) : quoI .i64 (a : Int) (b : Int) = ((a / b : Nat) : Int) := by
 rw [quoI_n (by omega) (by omega) (by omega)]; omega
theorem Rl.sub {n : Nat} {x : St4} {a : Th} (h : Rl n x a) (l : Tb) : gM a l = some (subV (findS x.S l), hasS x.S l) := by
 obtain ⟨m, h1, rfl⟩ := h
 unfold gM
 simp only
 rw [(sub_get h1.prm h1.up l).1, (sub_get h1.prm h1.up l).2]
theorem Rl.wants {n : Nat} {x : St4} {a : Th} (h : Rl n x a) (k : Tc) : gk a k = some (wantsL x.S k) := by
 obtain ⟨m, h1, rfl⟩ := h
 exact wants_d h1 k

/-! ### Full -/
def pubK (k : Nat) : Cm := .mk 3 noS noS ((k / 3 + 1 : Nat) : Int) 0 ((k % 3 + 1 : Nat) : Int) 0 false false [1000 + 10 * ((k / 3 + 1 : Nat) : Int) + ((k % 3 + 1 : Nat) : Int)]
def fullT : Nat → List Tk
 | 0 => hallT 6
 | k + 1 => fullT k ++ [newT (pubK k)]
theorem full_pub0 : (List.range 15).all (fun k => !hasT (fullT k) ⟨(pubK k).fd, (pubK k).fh⟩ && !((pubK k).fa.any fun x => hasM eqI x (srcL (fullT k)))) = true := by decide +kernel
theorem full_pub (k : Nat) (hk : k < 15) : pubR (fullT k) (pubK k) = (fullT (k + 1), 0) := by
 have h := List.all_eq_true.1 full_pub0 k (List.mem_range.2 hk)
 simp only [Bool.and_eq_true, Bool.not_eq_true'] at h
 unfold pubR
 rw [h.1, h.2]
 rfl
def subK (k : Nat) : Cm := .mk 5 noS noS 0 ((k / 4 + 1 : Nat) : Int) ((k % 4 : Nat) : Int) 0 false false []
def fullS : Nat → List Sb
 | 0 => []
 | k + 1 => (subH 6 (fullT 15) (fullS k) (subK k)).1
theorem full_sub0 : (List.range 20).all (fun k => (subH 6 (fullT 15) (fullS k) (subK k)).2 == if k < 16 then 0 else 11) = true := by decide +kernel
theorem full_sub (k : Nat) (hk : k < 20) : subH 6 (fullT 15) (fullS k) (subK k) = (fullS (k + 1), if k < 16 then 0 else 11) := by
 have h := List.all_eq_true.1 full_sub0 k (List.mem_range.2 hk)
 have h : (subH 6 (fullT 15) (fullS k) (subK k)).2 = if k < 16 then 0 else 11 := by simpa using h
 exact Prod.ext rfl h
def lastK (n l : Nat) : Cm := .mk 5 noS noS 0 ((n / 4 + 1 : Nat) : Int) ((n % 4 : Nat) : Int) (l : Int) false false []
theorem full_last0 : (List.range 16).all (fun n => (List.range 3).all fun l => (subH 6 (fullT 15) (fullS 20) (lastK n l)).2 == 0 && hasS (subH 6 (fullT 15) (fullS 20) (lastK n l)).1 (linkC (lastK n l)) &&
  (subV (findS (subH 6 (fullT 15) (fullS 20) (lastK n l)).1 (linkC (lastK n l)))).fo == (l : Int) && (subH 6 (fullT 15) (fullS 20) (lastK n l)).1.length == 16) = true := by decide +kernel
theorem full_last {n l : Nat} (hn : n < 16) (hl : l < 3) : (subH 6 (fullT 15) (fullS 20) (lastK n l)).2 = 0 ∧ hasS (subH 6 (fullT 15) (fullS 20) (lastK n l)).1 (linkC (lastK n l)) = true ∧
  (subV (findS (subH 6 (fullT 15) (fullS 20) (lastK n l)).1 (linkC (lastK n l)))).fo = (l : Int) ∧ (subH 6 (fullT 15) (fullS 20) (lastK n l)).1.length = 16 := by
 have h := List.all_eq_true.1 (List.all_eq_true.1 full_last0 n (List.mem_range.2 hn)) l (List.mem_range.2 hl)
 simp only [Bool.and_eq_true, beq_iff_eq] at h
 exact ⟨h.1.1.1, h.1.1.2, h.1.2, h.2⟩
noncomputable abbrev fullX (k j : Nat) : St4 := ⟨hallL 6, ((6 : Nat) : Int), fullT k, fullS j⟩
theorem accessFull_plain (x0 x1 : Int) : gl x0 x1 = some true := by
 obtain ⟨a0, g1, g2⟩ := hall_at 6 (by omega)
 have g1 : gE 6 = some a0 := g1
 have g2 : Rl (12 + 3 * 0) (fullX (3 * 0) 0) a0 := g2
 -- what is published
 obtain ⟨t1, ht1, a1, rfl, hR1⟩ := walk_rel (body := gl.loop1) (fun i s => ∃ a, Rl (12 + 3 * i) (fullX (3 * i) 0) a ∧ s = (((i + 1 : Nat) : Int), a.fb.fe, a.fb.fj, a.fc, a.ff, a.fg))
  (fun t => ∃ a, t = .go (a.fb.fe, a.fb.fj, a.fc, a.ff, a.fg) ∧ Rl 27 (fullX 15 0) a) 5 (by
   rintro i s hi ⟨a, hR, rfl⟩
   unfold gl.loop1
   simp only
   rw [ltI_t (by omega), cond_true]
   obtain ⟨t2, ht2, a2, rfl, hR2⟩ := walk_rel (body := gl.loop2 (((i + 1 : Nat) : Int), a.fb.fe, a.fb.fj, a.fc, a.ff, a.fg)) (fun j s => ∃ a, Rl (12 + 3 * i + j) (fullX (3 * i + j) 0) a ∧ s = (((j + 1 : Nat) : Int), a.fb.fe, a.fb.fj, a.fc, a.ff, a.fg))
    (fun t => ∃ a, t = .go (a.fb.fe, a.fb.fj, a.fc, a.ff, a.fg) ∧ Rl (12 + 3 * (i + 1)) (fullX (3 * (i + 1)) 0) a) 3 (by
     rintro j s hj ⟨b, hb, rfl⟩
     have hk : 3 * i + j < 15 := by omega
     have e1 : (3 * i + j) / 3 = i := by omega
     have e2 : (3 * i + j) % 3 = j := by omega
     unfold gl.loop2
     simp only
     rw [ltI_t (by omega), cond_true, eta_A]
     have en : cvtI .u32 (addI .i64 (addI .i64 1000 (mulI .i64 10 ((i + 1 : Nat) : Int))) ((j + 1 : Nat) : Int)) = 1000 + 10 * ((i + 1 : Nat) : Int) + ((j + 1 : Nat) : Int) := by
      rw [mulI_n (by omega) (by omega), show addI .i64 1000 (10 * ((i + 1 : Nat) : Int)) = 1000 + 10 * ((i + 1 : Nat) : Int) from addI_n (by omega) (by omega), addI_n (by omega) (by omega), cvtu _ (by omega)]
     have ec : pubK (3 * i + j) = .mk 3 noS noS ((i + 1 : Nat) : Int) 0 ((j + 1 : Nat) : Int) 0 false false [1000 + 10 * ((i + 1 : Nat) : Int) + ((j + 1 : Nat) : Int)] := by unfold pubK; rw [e1, e2]
     obtain ⟨a', q1, q2, _⟩ := hb.step (by omega) (c := pubK (3 * i + j)) noS_size noS_size (by simp [pubK]) (ck_pub1 false _ (by rw [e1]; omega) (by rw [e2]; omega))
     rw [do_pub (k := 6) rfl ⟨by rw [ec]; simp only; omega, by rw [ec]; simp only; omega⟩] at q1 q2
     simp only at q1 q2
     rw [full_pub _ hk] at q1 q2
     rw [ec] at q1
     have q1 : gf b (.mk 3 ⟨#[]⟩ ⟨#[]⟩ ((i + 1 : Nat) : Int) 0 ((j + 1 : Nat) : Int) 0 false false [1000 + 10 * ((i + 1 : Nat) : Int) + ((j + 1 : Nat) : Int)]) = some (0, 0, a') := q1
     rw [en, q1, Lc]
     simp only
     rw [neI_f rfl, cond_false, Lm (by omega)]
     exact ⟨_, rfl, a', q2, rfl⟩) (by
     rintro s ⟨b, hb, rfl⟩
     unfold gl.loop2
     simp only
     rw [ltI_f (by omega), cond_false]
     exact ⟨_, rfl, b, rfl, hb⟩) (s := (1, a.fb.fe, a.fb.fj, a.fc, a.ff, a.fg)) ⟨a, hR, rfl⟩
   rw [ht2]
   simp only [Lc, flC_go]
   rw [Lm (by omega)]
   exact ⟨_, rfl, a2, hR2, rfl⟩) (by
   rintro s ⟨a, hR, rfl⟩
   unfold gl.loop1
   simp only
   rw [ltI_f (by omega), cond_false]
   exact ⟨_, rfl, a, rfl, hR⟩) (s := (1, a0.fb.fe, a0.fb.fj, a0.fc, a0.ff, a0.fg)) ⟨a0, g2, rfl⟩
 -- what is subscribed to
 obtain ⟨t3, ht3, a3, rfl, hR3⟩ := walk_rel (body := gl.loop3) (fun i s => ∃ a, Rl (27 + 4 * i) (fullX 15 (4 * i)) a ∧ s = (((i + 1 : Nat) : Int), ((4 * i : Nat) : Int), a.fb.fe, a.fb.fj, a.fc, a.ff, a.fg))
  (fun t => ∃ a, t = .go (a.fb.fe, a.fb.fj, a.fc, a.ff, a.fg) ∧ Rl 47 (fullX 15 20) a) 5 (by
   rintro i s hi ⟨a, hR, rfl⟩
   unfold gl.loop3
   simp only
   rw [ltI_t (by omega), cond_true]
   obtain ⟨t2, ht2, a2, rfl, hR2⟩ := walk_rel (body := gl.loop4 (((i + 1 : Nat) : Int), ((4 * i : Nat) : Int), a.fb.fe, a.fb.fj, a.fc, a.ff, a.fg)) (fun j s => ∃ a, Rl (27 + 4 * i + j) (fullX 15 (4 * i + j)) a ∧ s = ((j : Int), ((4 * i + j : Nat) : Int), a.fb.fe, a.fb.fj, a.fc, a.ff, a.fg))
    (fun t => ∃ a, t = .go (((4 * (i + 1) : Nat) : Int), a.fb.fe, a.fb.fj, a.fc, a.ff, a.fg) ∧ Rl (27 + 4 * (i + 1)) (fullX 15 (4 * (i + 1))) a) 4 (by
     rintro j s hj ⟨b, hb, rfl⟩
     have hk : 4 * i + j < 20 := by omega
     have e1 : (4 * i + j) / 4 = i := by omega
     have e2 : (4 * i + j) % 4 = j := by omega
     unfold gl.loop4
     simp only
     rw [ltI_t (by omega), cond_true, eta_A]
     have ec : subK (4 * i + j) = .mk 5 noS noS 0 ((i + 1 : Nat) : Int) (j : Int) 0 false false [] := by unfold subK; rw [e1, e2]
     obtain ⟨a', q1, q2, _⟩ := hb.step (by omega) (c := subK (4 * i + j)) noS_size noS_size (by simp [subK]) (ck_sub (by omega) (by rw [e1]; omega) (by rw [e2]; omega) (by omega))
     rw [do_sub (k := 6) rfl ⟨by rw [ec]; simp only; omega, by rw [ec]; simp only; omega⟩] at q1 q2
     simp only at q1 q2
     have ef : subH ((6 : Nat) : Int) (fullT 15) (fullS (4 * i + j)) (subK (4 * i + j)) = (fullS (4 * i + j + 1), if 4 * i + j < 16 then 0 else 11) := full_sub _ hk
     rw [ef] at q1 q2
     rw [ec] at q1
     have q1 : gf b (.mk 5 ⟨#[]⟩ ⟨#[]⟩ 0 ((i + 1 : Nat) : Int) (j : Int) 0 false false []) = some (0, if 4 * i + j < 16 then 0 else 11, a') := q1
     rw [q1, Lc]
     simp only
     have et : pickB (neB (eqI (if 4 * i + j < 16 then 0 else 11) 0) (ltI ((4 * i + j : Nat) : Int) 16)) true (pickB (neI (if 4 * i + j < 16 then 0 else 11) 0) (neI (if 4 * i + j < 16 then 0 else 11) 11) false) = false := by
      by_cases h16 : 4 * i + j < 16
      ·rw [if_pos h16, ltI_t (by omega)]; rfl
      ·rw [if_neg h16, ltI_f (by omega)]; rfl
     rw [et, cond_false, Lm (by omega), Lm (by omega)]
     exact ⟨_, rfl, a', q2, rfl⟩) (by
     rintro s ⟨b, hb, rfl⟩
     unfold gl.loop4
     simp only
     rw [ltI_f (by omega), cond_false]
     exact ⟨_, rfl, b, rfl, hb⟩) (s := (0, ((4 * i : Nat) : Int), a.fb.fe, a.fb.fj, a.fc, a.ff, a.fg)) ⟨a, hR, rfl⟩
   rw [ht2]
   simp only [Lc, flC_go]
   rw [Lm (by omega)]
   exact ⟨_, rfl, a2, hR2, rfl⟩) (by
   rintro s ⟨a, hR, rfl⟩
   unfold gl.loop3
   simp only
   rw [ltI_f (by omega), cond_false]
   exact ⟨_, rfl, a, rfl, hR⟩) (s := (1, 0, a1.fb.fe, a1.fb.fj, a1.fc, a1.ff, a1.fg)) ⟨a1, hR1, rfl⟩
 -- another layer
 obtain ⟨n, hn, en⟩ : ∃ n : Nat, n < 16 ∧ remI (bitsOp .and .i64 x0 255) 16 = (n : Int) := by
  refine ⟨((x0 % 256) % 16).toNat, by omega, ?_⟩
  rw [and255]; unfold remI
  rw [Int.tmod_eq_emod_of_nonneg (by omega)]; omega
 obtain ⟨l, hl, el⟩ : ∃ l : Nat, l < 3 ∧ remI (bitsOp .and .i64 x1 255) 3 = (l : Int) := by
  refine ⟨((x1 % 256) % 3).toNat, by omega, ?_⟩
  rw [and255]; unfold remI
  rw [Int.tmod_eq_emod_of_nonneg (by omega)]; omega
 have eq4 : addI .i64 1 (quoI .i64 (n : Int) 4) = ((n / 4 + 1 : Nat) : Int) := by
  have : quoI .i64 (n : Int) 4 = ((n / 4 : Nat) : Int) := quoN (b := 4) (by omega) (by omega)
  rw [this, addI_n (by omega) (by omega)]; omega
 have er4 : remI (n : Int) 4 = ((n % 4 : Nat) : Int) := remN n 4
 obtain ⟨f1, f2, f3, f4⟩ := full_last hn hl
 obtain ⟨a4, q1, q2, _⟩ := hR3.step (by omega) (c := lastK n l) noS_size noS_size (by simp [lastK]) (ck_sub (by omega) (by omega) (by omega) (by omega))
 rw [do_sub (k := 6) rfl ⟨by simp only [lastK]; omega, by simp only [lastK]; omega⟩] at q1 q2
 have q1 : gf a3 (.mk 5 ⟨#[]⟩ ⟨#[]⟩ 0 ((n / 4 + 1 : Nat) : Int) ((n % 4 : Nat) : Int) (l : Int) false false []) = some (0, (subH 6 (fullT 15) (fullS 20) (lastK n l)).2, a4) := q1
 have hsub := q2.sub (linkC (lastK n l))
 have hlk := q2.links
 have hsub : gM a4 (⟨0, ⟨((n / 4 + 1 : Nat) : Int), ((n % 4 : Nat) : Int)⟩⟩ : Tb) = some (subV (findS (subH 6 (fullT 15) (fullS 20) (lastK n l)).1 (linkC (lastK n l))), hasS (subH 6 (fullT 15) (fullS 20) (lastK n l)).1 (linkC (lastK n l))) := hsub
 have hlk : gg a4 = some ((subH 6 (fullT 15) (fullS 20) (lastK n l)).1.map lnk) := hlk
 unfold gl
 rw [awake13_d, Lc, notB_f', cond_false, g1, Lc, ht1]
 simp only [Lc, flC_go]
 rw [ht3]
 simp only [Lc, flC_go]
 rw [Lf (show NonZ 16 by unfold NonZ; decide), Lf (show NonZ 3 by unfold NonZ; decide), Lf (show NonZ 4 by unfold NonZ; decide), Lf (show NonZ 4 by unfold NonZ; decide), en, el, eq4, er4, eta_A, q1, Lc]
 simp only
 rw [hsub, Lc, hlk, need_s]
 simp only [getD_so]
 rw [f1, f2, f3, eqI_t rfl, eqI_t rfl, eqI_t (by unfold lenL; rw [List.length_map, f4]; rfl)]
 rfl
end Go.Proofs
end
