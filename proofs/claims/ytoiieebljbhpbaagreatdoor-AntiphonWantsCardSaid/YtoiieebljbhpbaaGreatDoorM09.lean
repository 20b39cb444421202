import Derived.Test.YtoiieebljbhpbaaGreatDoorTs
import Derived.Test.YtoiieebljbhpbaaGreatDoorM16
import Derived.Test.YtoiieebljbhpbaaGreatDoorM21
import Derived.Test.YtoiieebljbhpbaaGreatDoorM12
import Derived.Test.YtoiieebljbhpbaaGreatDoorM05
import Derived.Test.YtoiieebljbhpbaaGreatDoorProg
import Derived.StillTailTactics
import Derived.Sort.Grow
import Derived.Lib.Small
import Derived.Lib.Walk
import Derived.BigRegion
import Derived.Deep.Draws
import Derived.Sort.CutIn
import Derived.Test.YtoiieebljbhpbaaGreatDoorTy
import Derived.Test.YtoiieebljbhpbaaGreatDoorM23
import Derived.Test.YtoiieebljbhpbaaGreatDoorRt
section
namespace Go.Ab
def leLk (x y : Tb) : Bool := decide (x.fu < y.fu ∨ (x.fu = y.fu ∧ (x.fOf.fc < y.fOf.fc ∨ (x.fOf.fc = y.fOf.fc ∧ x.fOf.ff ≤ y.fOf.ff))))
def sortLk (l : List Tb) : List Tb := l.mergeSort leLk
def Keys3B {α : Type} (l : List α) : Prop := l.length * 24 ≤ 140737488355328
end Go.Ab
end
section

end
section
namespace Go.Proofs
open Go.Ab
def gaD (x0 : Th) (x1 : Int) : Option Int :=
 some (x0.fg.foldr (fun e n => bif eqI e.1.fu x1 then addI .i64 n 1 else n) 0)
end Go.Proofs
end
section
namespace Go.Proofs
open Go.Ab
noncomputable def gaH : Option Bool :=
 ((gK (Tl.mk false 96 1 0 0 [] false 0 ⟨#[]⟩ ⟨#[120]⟩ 0))).bind fun r1 =>
 ((gae r1)).bind fun r2 =>
 (gah).bind fun r3 =>
 need (Under (qaf (qaf (eqI r2.2 0) (eqS r2.1.fy ⟨#[120]⟩) false) (eqI r2.1.fD 96) false) true ((gY r3).isSome = true)) <|
 need (Under (qaf (qaf (qaf (eqI r2.2 0) (eqS r2.1.fy ⟨#[120]⟩) false) (eqI r2.1.fD 96) false) (eqI (lenS ((gY r3).getD dflt)) 1) false) true ((gad [(RtcpPacket.c0 (Tv.mk 1 2))]).isSome = true)) <|
 need (Under (qaf (qaf (qaf (eqI r2.2 0) (eqS r2.1.fy ⟨#[120]⟩) false) (eqI r2.1.fD 96) false) (eqI (lenS ((gY r3).getD dflt)) 1) false) true (InB 1 (lenS ((gad [(RtcpPacket.c0 (Tv.mk 1 2))]).getD dflt)))) <|
 some (qaf (qaf (qaf (qaf (eqI r2.2 0) (eqS r2.1.fy ⟨#[120]⟩) false) (eqI r2.1.fD 96) false) (eqI (lenS ((gY r3).getD dflt)) 1) false) (eqI (idxS ((gad [(RtcpPacket.c0 (Tv.mk 1 2))]).getD dflt) 1) 206) false)
end Go.Proofs
end
section
set_option maxRecDepth 100000
set_option maxHeartbeats 1000000
namespace Go.Ab
open Go.Proofs Go.RowKit Go.Lib Go.Sort
theorem isNaN_c (x : Int) (w : World) : Calls Tryz.prog 94 #[.int .i64 x] w fun e w' => e = .returned (.bool false) ∧ w' = w := by
 go_enter Tryz.func94, Tryz.ntmps94
 go_wp2;go_ret;exact ⟨by simp, rfl⟩
theorem compare_c (x y : Int) (w : World) : Calls Tryz.prog 46 #[.int .i64 x, .int .i64 y] w fun e w' => e = .returned (.int .i64 (Lib.compareInt x y)) ∧ w' = w := by
 go_enter Tryz.func46, Tryz.ntmps46
 go_wp2_with (go_at_call 94; refine (isNaN_c _ _).mono ?_; rintro e w' ⟨rfl, hw⟩; rw [hw])
 all_goals (go_ret; refine ⟨?_, rfl⟩; unfold Lib.compareInt; (repeat' split) <;> first | rfl | (exfalso; omega))
def or3 (a b c : Int) : Int := if a ≠ 0 then a else if b ≠ 0 then b else c
theorem or_c (B : Nat) (a b c : Int) (w : World) (h0 : w.cell? ⟨B, 0, none⟩ = some (.int .i64 a)) (h1 : w.cell? ⟨B, 1, none⟩ = some (.int .i64 b)) (h2 : w.cell? ⟨B, 2, none⟩ = some (.int .i64 c)) :
  Calls Tryz.prog 45 #[.slice (some ⟨B, 0, none⟩) 3 3] w fun e w' => e = .returned (.int .i64 (or3 a b c)) ∧ w' = w := by
 go_enter Tryz.func45, Tryz.ntmps45
 go_wp2
 go_loopw [8] (fun v wr => ∃ i : Nat, v = .int .i64 i ∧ i ≤ 3 ∧ wr = w ∧ (1 ≤ i → a = 0) ∧ (2 ≤ i → b = 0) ∧ (3 ≤ i → c = 0)) (fun v _ => 3 - (match v with | .int _ n => n.toNat | _ => 0))
 case atStart => exact ⟨0, rfl, by omega, rfl, by omega, by omega, by omega⟩
 case round =>
  obtain ⟨i, rfl, hi, rfl, q1, q2, q3⟩ := hrel;rcases (show i = 0 ∨ i = 1 ∨ i = 2 ∨ i = 3 by omega) with rfl | rfl | rfl | rfl
  ·go_wp2
   ·rename_i hh;go_ret;have hh : a ≠ 0 := by simpa using hh
    exact ⟨by simp [or3, hh], rfl⟩
   ·rename_i hh;have hh : a = 0 := by simpa using hh
    exact ⟨⟨1, rfl, by omega, trivial, fun _ => hh, by omega, by omega⟩, by decide⟩
  ·have qa := q1 (by omega);go_wp2
   ·rename_i hh;go_ret;have hh : b ≠ 0 := by simpa using hh
    exact ⟨by simp [or3, hh, qa], rfl⟩
   ·rename_i hh;have hh : b = 0 := by simpa using hh
    exact ⟨⟨2, rfl, by omega, trivial, fun _ => qa, fun _ => hh, by omega⟩, by decide⟩
  ·have qa := q1 (by omega);have qb := q2 (by omega);go_wp2
   ·rename_i hh;go_ret;have hh : c ≠ 0 := by simpa using hh
    exact ⟨by simp [or3, qb, qa], rfl⟩
   ·rename_i hh;have hh : c = 0 := by simpa using hh
    exact ⟨⟨3, rfl, by omega, trivial, fun _ => qa, fun _ => qb, fun _ => hh⟩, by decide⟩
  ·have qa := q1 (by omega);have qb := q2 (by omega);have qc := q3 (by omega);go_wp2;go_ret;exact ⟨by simp [or3, qb, qa, qc], rfl⟩
def cf3 (x y : Int × Int × Int) : Int := or3 (Lib.compareInt x.1 y.1) (Lib.compareInt x.2.1 y.2.1) (Lib.compareInt x.2.2 y.2.2)
theorem linksCmp (x y : Int × Int × Int) (W : World) : Calls Tryz.prog 44 #[.agg #[.int .i64 x.1, .int .i64 x.2.1, .int .i64 x.2.2], .agg #[.int .i64 y.1, .int .i64 y.2.1, .int .i64 y.2.2]] W fun e w' => e = .returned (.int .i64 (cf3 x y)) ∧ ∃ q os', w' = grow (W.drewN q) os' := by
 obtain ⟨x1, x2, x3⟩ := x;obtain ⟨y1, y2, y3⟩ := y;have c1 := fun W' => compare_c x1 y1 W';have c2 := fun W' => compare_c x2 y2 W';have c3 := fun W' => compare_c x3 y3 W';simp only [cf3];generalize Lib.compareInt x1 y1 = r1 at c1 ⊢;generalize Lib.compareInt x2 y2 = r2 at c2 ⊢;generalize Lib.compareInt x3 y3 = r3 at c3 ⊢
 go_enter Tryz.func44, Tryz.ntmps44
 go_upto_region 1 with (fail)
 obtain ⟨W2, hW2⟩ : ∃ W2, (W.alloc (.cells #[.int .i64 x1, .int .i64 x2, .int .i64 x3] 51)).alloc (.cells #[.int .i64 y1, .int .i64 y2, .int .i64 y3] 51) = W2 := ⟨_, rfl⟩;change Code.wp _ _ _ _ ((W.alloc (.cells #[.int .i64 x1, .int .i64 x2, .int .i64 x3] 51)).alloc (.cells #[.int .i64 y1, .int .i64 y2, .int .i64 y3] 51));rw [hW2];have k0 : W2.cell? ⟨W.heap.size, 0, none⟩ = some (.int .i64 x1) := by rw [← hW2]; simp
 have k1 : W2.cell? ⟨W.heap.size, 1, none⟩ = some (.int .i64 x2) := by rw [← hW2]; simp
 have k2 : W2.cell? ⟨W.heap.size, 2, none⟩ = some (.int .i64 x3) := by rw [← hW2]; simp
 have l0 : W2.cell? ⟨W.heap.size + 1, 0, none⟩ = some (.int .i64 y1) := by rw [← hW2]; simp
 have l1 : W2.cell? ⟨W.heap.size + 1, 1, none⟩ = some (.int .i64 y2) := by rw [← hW2]; simp
 have l2 : W2.cell? ⟨W.heap.size + 1, 2, none⟩ = some (.int .i64 y3) := by rw [← hW2]; simp
 refine wp_region_still_tail 19 (by kernel_rfl) (by kernel_rfl) ?_;simp only [List.take_succ_cons, List.take_zero, List.drop_succ_cons, List.drop_zero]
 iterate 4 still_step
 still_call (c1 _)
 iterate 6 still_step
 still_call (c2 _)
 iterate 6 still_step
 still_call (c3 _)
 refine wpStill_nil ?_;change wpList _ _ _ _ _ W2.drew
 have fin : ∀ o : Obj, ∃ q os', W2.drew.alloc o = grow (W.drewN q) os' := fun o => by
  refine ⟨1, #[.cells #[.int .i64 x1, .int .i64 x2, .int .i64 x3] 51, .cells #[.int .i64 y1, .int .i64 y2, .int .i64 y3] 51] ++ #[o], ?_⟩;rw [← hW2, alloc_eq_grow, ← grow_grow, alloc_eq_grow, alloc_eq_grow, grow_grow]; rfl
 generalize W2.drew = W3 at fin ⊢;clear k0 k1 k2 l0 l1 l2 c1 c2 c3 hW2;have hor := fun W' h0 h1 h2 => or_c W3.heap.size r1 r2 r3 W' h0 h1 h2;go_wp2_with (go_at_call 45; refine (hor _ (by simp) (by simp) (by simp)).mono ?_; rintro e w' ⟨rfl, rfl⟩);go_ret;exact ⟨rfl, fin _⟩
end Go.Ab
end
section
set_option maxRecDepth 100000
set_option maxHeartbeats 4000000
namespace Go.Proofs
open Go.Ab
@[simp] def gak.out (_x0 : Tv) (r : Int × Int) : Out := { av := .tup [.lit (.int .u8 r.1), .lit (.int .u8 r.2)], M := none }
theorem gak.can (x0 : Tv) (r : Int × Int) (hr : gak x0 = some r) : qao Tryz.prog 220 [.agg [.lit (.int .u32 x0.fO), .lit (.int .u32 x0.fTo)]] [] (gak.out x0 r) := by
 unfold gak at hr;have hΓ := qae (P := Tryz.prog);refine cw Tryz.func220 rfl (by kernel_rfl) rfl rfl (by simp) fun _ _ _ => ?_;refine tq hΓ [] [0] ?_;refine tq hΓ [2, 3] [] ?_;obtain rfl := La hr;exact AWp.ret (Ld (by simp))
@[simp] noncomputable def gak.S : Sp
  | [.agg e0], _ => some { av := .tup [.lit (.int .u8 (((gak (Tv.dec e0)).getD dflt).1)), .lit (.int .u8 (((gak (Tv.dec e0)).getD dflt).2))], M := none, obl := WeakL e0 (Tv.enc (Tv.dec e0)) ∧ (gak (Tv.dec e0)).isSome = true }
  | _, _ => none
theorem gak.ok : qap Tryz.prog 220 gak.S := by
 intro l M out h;unfold gak.S at h;split at h
 ·rename_i e0;cases h;refine qad fun ho => ?_;obtain ⟨ox0, hs⟩ := ho;generalize (Tv.dec e0) = x0 at *
  obtain ⟨r, hr⟩ := so1 hs;simp only [hr, gd1];have q := Lf (M := M) [] (gak.can x0 r hr) (by simp) rfl ixn;exact qac q trivial (by simp; exact ox0) (by simp [qaa]) (by simp [qaa])
 ·cases h
@[simp] def gam.m (_x0 : Tv) (x1 : List Int) : List qau := [.opq (wrO 143 5 x1)]
@[simp] def gam.out (_x0 : Tv) (_x1 : List Int) (r : List Int) : Out := { av := .tup [], M := some [.opq (wrO 143 5 r)] }
theorem gam.can (x0 : Tv) (x1 : List Int) (r : List Int) (hr : gam x0 x1 = some r) : qao Tryz.prog 221 [.agg [.lit (.int .u32 x0.fO), .lit (.int .u32 x0.fTo)], .ptr 0 0] (gam.m x0 x1) (gam.out x0 x1 r) := by
 unfold gam at hr;have hΓ := (qab gt.ok (qae) : qbc Tryz.prog _);refine cw Tryz.func221 rfl (by kernel_rfl) rfl rfl (by simp) fun _ _ _ => ?_;refine tq hΓ [2] [0] ?_;obtain ⟨r1, h2, hr⟩ := Lb hr;refine tl hΓ [] [2, 1] ?_ (by simp [h2]; exact rr);obtain rfl := La hr;exact fin_norm (by simp)
@[simp] noncomputable def gam.S : Sp
  | [.agg e0, .ptr i0 0], M => (rdQ M i0).bind fun c0 => some { av := .tup [], M := some (M.set i0 (.opq (wrO 143 5 ((gam (Tv.dec e0) c0.bs).getD dflt)))), obl := WeakL e0 (Tv.enc (Tv.dec e0)) ∧ c0 = wrO 143 5 c0.bs ∧ (gam (Tv.dec e0) c0.bs).isSome = true }
  | _, _ => none
theorem gam.ok : qap Tryz.prog 221 gam.S := by
 intro l M out h;unfold gam.S at h;split at h
 ·rename_i e0 i0;obtain ⟨c0, hM0, h⟩ := bQ h;cases h;refine qad fun ho => ?_;obtain ⟨ox0, oc0, hs⟩ := ho;generalize (Tv.dec e0) = x0 at *
  generalize c0.bs = y0 at *
  subst oc0;obtain ⟨r, hr⟩ := so1 hs;simp only [hr, gd1];have q := Lf (M := M) [i0] (gam.can x0 y0 r hr) (by simp) rfl (ix (by simp [hM0]) ixn);exact qac q trivial (by simp [into]; exact ox0) (by simp [qaa]) (by simp [qaa])
 ·cases h
@[simp] def gaA.m (x0 : List Int) (_x1 : RtcpPacket) : List qau := [.opq (wrO 143 5 x0)]
@[simp] def gaA.out (_x0 : List Int) (_x1 : RtcpPacket) (r : List Int) : Out := { av := .tup [], M := some [.opq (wrO 143 5 r)] }
theorem gaA.can (x0 : List Int) (x1 : RtcpPacket) (r : List Int) (hr : gaA x0 x1 = some r) : qao Tryz.prog 73 [.ptr 0 0, RtcpPacket.av x1] (gaA.m x0 x1) (gaA.out x0 x1 r) := by
 unfold gaA at hr;have hΓ := (qab gam.ok (qae) : qbc Tryz.prog _);refine cw Tryz.func73 rfl (by kernel_rfl) rfl rfl (by simp) fun _ _ _ => ?_;cases h3 : x1 with
 | c0 y1c0 =>
   have hr := RtcpPacket.by0 h3 hr;refine tq hΓ [4, 5] [1] ?_ (by simp; exact rr);refine tq hΓ [11] [5] ?_ (by simp; exact rr);refine AWp.cond (b := true) (by simp) (fun hb => ?_) (fun hb => ?_)
   ·obtain ⟨r1, h4, hr⟩ := Lb hr;refine tl hΓ [] [11, 4, 0] ?_ (by simp [h4]; exact rr);obtain rfl := La hr;exact fin_norm (by simp)
   ·cases hb
@[simp] noncomputable def gaA.S : Sp
  | [.ptr i0 0, a1], M => (rdQ M i0).bind fun c0 => some { av := .tup [], M := some (M.set i0 (.opq (wrO 143 5 ((gaA c0.bs (RtcpPacket.dec [a1])).getD dflt)))), obl := a1 = RtcpPacket.av (RtcpPacket.dec [a1]) ∧ c0 = wrO 143 5 c0.bs ∧ (gaA c0.bs (RtcpPacket.dec [a1])).isSome = true }
  | _, _ => none
theorem gaA.ok : qap Tryz.prog 73 gaA.S := by
 intro l M out h;unfold gaA.S at h;split at h
 ·rename_i i0 a1;obtain ⟨c0, hM0, h⟩ := bQ h;cases h;refine qad fun ho => ?_;obtain ⟨ox1, oc0, hs⟩ := ho;generalize c0.bs = y0 at *
  generalize (RtcpPacket.dec [a1]) = x1 at *
  subst ox1;subst oc0;obtain ⟨r, hr⟩ := so1 hs;simp only [hr, gd1];have q := Lf (M := M) [i0] (gaA.can y0 x1 r hr) (by simp) rfl (ix (by simp [hM0]) ixn);exact qac q trivial (by simp [into]) (by simp [qaa]) (by simp [qaa])
 ·cases h
@[simp] def gad.out (_x0 : List RtcpPacket) (r : ByteArray) : Out := { av := .lit (.string r), M := none }
def gad.fin (x0 : List RtcpPacket) (r : ByteArray) (σ : St) : Prop := finK (gad.out x0 r) [] σ.M (resA Tryz.ty σ.A σ.M Tryz.f31.results.toList)
theorem gad.can (x0 : List RtcpPacket) (r : ByteArray) (hr : gad x0 = some r) : qao Tryz.prog 31 [.sl (x0.map RtcpPacket.enc) .no] [] (gad.out x0 r) := by
 unfold gad at hr;have hΓ := (qab gR.ok (qab gB.ok (qab gu.ok (qab gaz.Text.ok (qab gp.ok (qab gaz.U8.ok (qab gak.ok (qab gaA.ok (qae)))))))) : qbc Tryz.prog _);refine cw Tryz.func31 rfl (by kernel_rfl) rfl rfl (by simp) fun _ _ _ => ?_;refine tq hΓ [] [] ?_;refine AWp.then ⟨[⟨3, none, .ptr 0 0⟩, ⟨0, none, .sl (x0.map RtcpPacket.enc) .no⟩], [.opq (wrO 143 5 [])]⟩ (gaz.alloc rfl rfl rfl rfl (by kernel_rfl) rfl (dead := []) (by simp [exS])) ?_;refine AWp.seq ?_;refine tq hΓ [9, 10, 11] [0] ?_;refine AWp.loopE (fun (s1 : Int × List Int) (γ1 : Unit) => ⟨[⟨9, none, .sl (x0.map RtcpPacket.enc) .no⟩, ⟨10, none, .n (qat x0)⟩, ⟨11, none, .n s1.1⟩, ⟨3, none, .ptr 0 0⟩], [.opq (wrO 143 5 s1.2)]⟩) (fun (v1 : List Int) (γ1a : Unit) => ⟨[⟨3, none, .ptr 0 0⟩], [.opq (wrO 143 5 v1)]⟩) (gad.fin x0) hr () 1 (by simp) (fun s1 f γ1 hr => ?_) (fun v1 γ1a σ1 m1 hr hc => ?_) (fun _ h => h)
 ·unfold gad.loop1 at hr;refine tq hΓ [12] [] ?_;refine AWp.seq ?_;refine AWp.cnd hr (by simp) (fun h14 hr => ?_) (fun h14 hr => ?_)
  ·refine AWp.skip ?_;refine AWp.seq ?_;refine AWp.block ?_;obtain ⟨h15, hr⟩ := Lg hr;refine tq hΓ [5] [12] ?_ (by simp [h14, h15]; exact rr);cases h16 : (nthI x0 s1.1) with
   | c0 y2c0 =>
     have hr := RtcpPacket.by0 h16 hr;obtain ⟨r1, h17, hr⟩ := Lb hr;refine tq hΓ [6, 7] [] ?_ (by simp [h17]; exact rr);refine AWp.then ⟨[⟨8, none, .ptr 1 0⟩, ⟨6, none, .lit (.int .u8 r1.1)⟩, ⟨7, none, .lit (.int .u8 r1.2)⟩, ⟨5, none, .iface 98 (.agg [.lit (.int .u32 y2c0.fO), .lit (.int .u32 y2c0.fTo)])⟩, ⟨9, none, .sl (x0.map RtcpPacket.enc) .no⟩, ⟨10, none, .n (qat x0)⟩, ⟨11, none, .n s1.1⟩, ⟨3, none, .ptr 0 0⟩], [.opq (wrO 143 5 s1.2), .opq (wrO 143 5 [])]⟩ (gaz.alloc rfl rfl rfl rfl (by kernel_rfl) rfl (dead := []) (by simp [exS])) ?_;obtain ⟨r2, h18, hr⟩ := Lb hr;refine tq hΓ [] [5] ?_ (by simp [h18]; exact rr);obtain ⟨r3, h19, hr⟩ := Lb hr;refine tq hΓ [] [] ?_ (by simp [h19]; exact rr);obtain ⟨h20, hr⟩ := Lg hr;obtain ⟨r4, h21, hr⟩ := Lb hr;obtain ⟨h22, hr⟩ := Lg hr;obtain ⟨r5, h23, hr⟩ := Lb hr;obtain ⟨h24, hr⟩ := Lg hr;obtain ⟨r6, h25, hr⟩ := Lb hr;refine tl hΓ [] [8, 6, 7] ?_ (by simp [h20, h21, h22, h23, h24, h25]; exact rr);refine tl hΓ [11] [] ?_ (by simp; exact rr);obtain rfl := La hr;exact Lq () 1 (by first | (simp; done) | simp [h14, h15, h16, h17, h18, h19, h20, h21, h22, h23, h24, h25])
  ·refine AWp.exit ?_;obtain rfl := La hr;exact Ln () 1 (by first | (simp; done) | simp [h14])
 ·refine AWp.conv hc ?_;obtain ⟨h26, hr⟩ := Lg hr;refine tq hΓ [2] [3] ?_ (by simp [h26]; exact rr);obtain rfl := La hr;exact AWp.ret (Ld (by simp))
@[simp] noncomputable def gad.S : Sp
  | [.sl e0 _], _ => some { av := .lit (.string ((gad (e0.map RtcpPacket.dec)).getD dflt)), M := none, obl := e0 = (e0.map RtcpPacket.dec).map RtcpPacket.enc ∧ (gad (e0.map RtcpPacket.dec)).isSome = true }
  | _, _ => none
theorem gad.ok : qap Tryz.prog 31 gad.S := by
 intro l M out h;unfold gad.S at h;split at h
 ·rename_i e0 k0;cases h;refine qad fun ho => ?_;obtain ⟨ox0, hs⟩ := ho;generalize (e0.map RtcpPacket.dec) = x0 at *
  subst ox0;obtain ⟨r, hr⟩ := so1 hs;simp only [hr, gd1];have q := Lf (M := M) [] (gad.can x0 r hr) (by simp) rfl ixn;exact qac q trivial (by simp) (by simp [qaa]) (by simp [qaa])
 ·cases h
end Go.Proofs
end
section
namespace Go.Proofs
open Go.Ab
@[simp] def gaH.out  (r : Bool) : Out := { av := .lit (.bool r), M := none }
set_option maxHeartbeats 4000000 in
set_option maxRecDepth 100000 in
theorem gaH.can  (r : Bool) (hr : gaH = some r) : qao Tryz.prog 9 [] [] (gaH.out  r) := by
 unfold gaH at hr;have hΓ := (qab gK.ok (qab gY.ok (qab gad.ok (qab gae.ok (qab gah.ok (qae))))) : qbc Tryz.prog _);refine cw Tryz.func9 rfl (by kernel_rfl) rfl rfl (by simp) fun _ _ _ => ?_;refine tq hΓ [] [] ?_;refine tq hΓ [1] [] ?_;obtain ⟨r1, h7, hr⟩ := Lb hr;obtain ⟨r2, h8, hr⟩ := Lb hr;refine tq hΓ [2, 3] [1] ?_ (by simp [h7, h8]; exact rr);obtain ⟨r3, h9, hr⟩ := Lb hr;refine tq hΓ [4] [] ?_ (by simp [h9]; exact rr);obtain ⟨h10, hr⟩ := Lg hr;obtain ⟨h11, hr⟩ := Lg hr;obtain ⟨h12, hr⟩ := Lg hr;refine tq hΓ [0] [4, 2, 3] ?_ (by simp [h10, h11, h12]; exact rr);obtain rfl := La hr;exact AWp.ret (Ld (by simp))
@[simp] noncomputable def gaH.S : Sp
  | [], _ => some { av := .lit (.bool (gaH.getD dflt)), M := none, obl := gaH.isSome = true }
  | _, _ => none
set_option maxHeartbeats 1000000 in
theorem gaH.ok : qap Tryz.prog 9 gaH.S := by
 intro l M out h;unfold gaH.S at h;split at h
 ·cases h;refine qad fun ho => ?_;have hs := ho;obtain ⟨r, hr⟩ := so1 hs;simp only [hr, gd1];have q := Lf (M := M) [] (gaH.can r hr) (by simp) rfl ixn;exact qac q trivial (by simp) (by simp [qaa]) (by simp [qaa])
 ·cases h
end Go.Proofs
end
section
namespace Go.Ab
end Go.Ab
end
