import Derived.Test.YtpamnignoocogaaGreatDoorM16
import Derived.Test.YtpamnignoocogaaGreatDoorM12
import Derived.Test.YtpamnignoocogaaGreatDoorM10
import Derived.Test.YtpamnignoocogaaGreatDoorM04
import Derived.Test.YtpamnignoocogaaGreatDoorM14
import Derived.Test.YtpamnignoocogaaGreatDoorProg
import Derived.StillTailTactics
import Derived.Sort.Grow
import Derived.Lib.Small
import Derived.Lib.Walk
import Derived.BigRegion
import Derived.Deep.Draws
import Derived.Sort.CutIn
import Derived.Test.YtpamnignoocogaaGreatDoorM05
import Derived.Test.YtpamnignoocogaaGreatDoorTy
import Derived.Test.YtpamnignoocogaaGreatDoorM13
section
namespace Go.Proofs
open Go.Ab
noncomputable def gp (x0 : ByteArray) : Option (Tc × Int) :=
 need (x0.size < 4294967281) <|
 (gW).bind fun r1 =>
 need (InB 0 (lenL (splitT x0 32))) <|
 need (lenL r1 ≤ 140737488355328) <|
 bif (notB (hasT r1 (nthI (splitT x0 32) 0))) then (
  some ((Tc.mk 0 0 ⟨#[]⟩ 0), 3)
 ) else (
   need (InB 0 (lenL (splitT x0 32))) <|
   need (CutB 1 (lenL (splitT x0 32)) (lenL (splitT x0 32))) <|
   ((gg (nthI (splitT x0 32) 0) (cutL (splitT x0 32) 1 (lenL (splitT x0 32))))).bind fun r2 =>
   bif r2.2 then (
    some ((Tc.mk r2.1.fb r2.1.fc r2.1.fj r2.1.fN), 0)
   ) else (
     need (InB 0 (lenL (splitT x0 32))) <|
     need (CutB 1 (lenL (splitT x0 32)) (lenL (splitT x0 32))) <|
     ((gi (nthI (splitT x0 32) 0) (cutL (splitT x0 32) 1 (lenL (splitT x0 32))))).bind fun r3 =>
     bif (notB r3.2) then (
      some ((Tc.mk 0 0 ⟨#[]⟩ 0), 2)
     ) else (
       ((gq r3.1)).bind fun r4 =>
       bif (neI r4 0) then (
        some ((Tc.mk 0 0 ⟨#[]⟩ 0), r4)
       ) else (
         ((gf r3.1)).bind fun r5 =>
         some ((Tc.mk 2 0 r5 0), 0)
       )
     )
   )
 )
end Go.Proofs
end
section
namespace Go.Proofs
open Go.Ab
noncomputable def gt.loop2 (v1 : List ByteArray) (s2 : Int × List Tc) : Option (Fl (Int × List Tc) (Fl (List Tc) (List Tc × Int × Int))) :=
 bif (ltI s2.1 (lenL v1)) then (
  need (InB s2.1 (lenL v1)) <|
  ((gp (nthI v1 s2.1))).bind fun r1 =>
  bif (neI r1.2 0) then (
   some (.out (.out ([], s2.1, r1.2)))
  ) else (
    need (AppB (lenL s2.2) 1 40) <|
    some (.go ((addI .i64 s2.1 1), (appL s2.2 [(Tc.mk r1.1.fb r1.1.fc r1.1.fj r1.1.fN)])))
  )
 ) else (
   some (.out (.go s2.2))
 )
noncomputable def gt (x0 : ByteArray) : Option (List Tc × Int × Int) :=
 need (x0.size < 4294967281) <|
 ((
  need (InB (subI .i64 (lenL (splitT x0 10)) 1) (lenL (splitT x0 10))) <|
  bif (eqS (nthI (splitT x0 10) (subI .i64 (lenL (splitT x0 10)) 1)) ⟨#[]⟩) then (
   need (CutB 0 (subI .i64 (lenL (splitT x0 10)) 1) (lenL (splitT x0 10))) <|
   some (.go (cutL (splitT x0 10) 0 (subI .i64 (lenL (splitT x0 10)) 1)))
  ) else (
    some (.go (splitT x0 10))
  )
  : Option (Fl (List ByteArray) (List Tc × Int × Int))).bind fun f => flC f fun (v1 : List ByteArray) =>
  bif (ltI 500 (lenL v1)) then (
   some ([], (lenL v1), 4)
  ) else (
    ((loopF (gt.loop2 v1) (0, [])).bind fun f => flC f fun (v2 : List Tc) =>
      some (v2, 0, 0)
    )
  )
 )
end Go.Proofs
end
section
set_option maxRecDepth 100000
set_option maxHeartbeats 1000000
namespace Go.Ab
open Go.Proofs Go.RowKit Go.Lib Go.Sort
theorem isNaN_c (x : Int) (w : World) : Calls Tryz.prog 286 #[.int .i64 x] w fun e w' => e = .returned (.bool false) ∧ w' = w := by
 go_enter Tryz.func286, Tryz.ntmps286
 go_wp2;go_ret;exact ⟨by simp, rfl⟩
theorem compare_c (x y : Int) (w : World) : Calls Tryz.prog 274 #[.int .i64 x, .int .i64 y] w fun e w' => e = .returned (.int .i64 (Lib.compareInt x y)) ∧ w' = w := by
 go_enter Tryz.func274, Tryz.ntmps274
 go_wp2_with (go_at_call 286; refine (isNaN_c _ _).mono ?_; rintro e w' ⟨rfl, hw⟩; rw [hw])
 all_goals (go_ret; refine ⟨?_, rfl⟩; unfold Lib.compareInt; (repeat' split) <;> first | rfl | (exfalso; omega))
def or3 (a b c : Int) : Int := if a ≠ 0 then a else if b ≠ 0 then b else c
theorem or_c (B : Nat) (a b c : Int) (w : World) (h0 : w.cell? ⟨B, 0, none⟩ = some (.int .i64 a)) (h1 : w.cell? ⟨B, 1, none⟩ = some (.int .i64 b)) (h2 : w.cell? ⟨B, 2, none⟩ = some (.int .i64 c)) :
  Calls Tryz.prog 273 #[.slice (some ⟨B, 0, none⟩) 3 3] w fun e w' => e = .returned (.int .i64 (or3 a b c)) ∧ w' = w := by
 go_enter Tryz.func273, Tryz.ntmps273
 go_wp2
 go_loopw [8] (fun v wr => ∃ i : Nat, v = .int .i64 i ∧ i ≤ 3 ∧ wr = w ∧ (1 ≤ i → a = 0) ∧ (2 ≤ i → b = 0) ∧ (3 ≤ i → c = 0)) (fun v _ => 3 - (match v with | .int _ n => n.toNat | _ => 0))
 case atStart => exact ⟨0, rfl, by omega, rfl, by omega, by omega, by omega⟩
 case round =>
  obtain ⟨i, rfl, hi, rfl, q1, q2, q3⟩ := hrel;rcases (show i = 0 ∨ i = 1 ∨ i = 2 ∨ i = 3 by omega) with rfl | rfl | rfl | rfl
  ·go_wp2
   ·rename_i hh;go_ret;have hh : a ≠ 0 := by simpa using hh
    exact ⟨by simp [or3, hh], rfl⟩
   ·rename_i hh;have hh : a = 0 := by simpa using hh
    exact ⟨⟨1, rfl, by omega, trivial, fun _ => hh, by omega, by omega⟩, by decide⟩
  ·have qa := q1 (by omega);go_wp2
   ·rename_i hh;go_ret;have hh : b ≠ 0 := by simpa using hh
    exact ⟨by simp [or3, hh, qa], rfl⟩
   ·rename_i hh;have hh : b = 0 := by simpa using hh
    exact ⟨⟨2, rfl, by omega, trivial, fun _ => qa, fun _ => hh, by omega⟩, by decide⟩
  ·have qa := q1 (by omega);have qb := q2 (by omega);go_wp2
   ·rename_i hh;go_ret;have hh : c ≠ 0 := by simpa using hh
    exact ⟨by simp [or3, qb, qa], rfl⟩
   ·rename_i hh;have hh : c = 0 := by simpa using hh
    exact ⟨⟨3, rfl, by omega, trivial, fun _ => qa, fun _ => qb, fun _ => hh⟩, by decide⟩
  ·have qa := q1 (by omega);have qb := q2 (by omega);have qc := q3 (by omega);go_wp2;go_ret;exact ⟨by simp [or3, qb, qa, qc], rfl⟩
def cf3 (x y : Int × Int × Int) : Int := or3 (Lib.compareInt x.1 y.1) (Lib.compareInt x.2.1 y.2.1) (Lib.compareInt x.2.2 y.2.2)
theorem linksCmp (x y : Int × Int × Int) (W : World) : Calls Tryz.prog 272 #[.agg #[.int .i64 x.1, .int .i64 x.2.1, .int .i64 x.2.2], .agg #[.int .i64 y.1, .int .i64 y.2.1, .int .i64 y.2.2]] W fun e w' => e = .returned (.int .i64 (cf3 x y)) ∧ ∃ q os', w' = grow (W.drewN q) os' := by
 obtain ⟨x1, x2, x3⟩ := x;obtain ⟨y1, y2, y3⟩ := y;have c1 := fun W' => compare_c x1 y1 W';have c2 := fun W' => compare_c x2 y2 W';have c3 := fun W' => compare_c x3 y3 W';simp only [cf3];generalize Lib.compareInt x1 y1 = r1 at c1 ⊢;generalize Lib.compareInt x2 y2 = r2 at c2 ⊢;generalize Lib.compareInt x3 y3 = r3 at c3 ⊢
 go_enter Tryz.func272, Tryz.ntmps272
 go_upto_region 1 with (fail)
 obtain ⟨W2, hW2⟩ : ∃ W2, (W.alloc (.cells #[.int .i64 x1, .int .i64 x2, .int .i64 x3] 303)).alloc (.cells #[.int .i64 y1, .int .i64 y2, .int .i64 y3] 303) = W2 := ⟨_, rfl⟩;change Code.wp _ _ _ _ ((W.alloc (.cells #[.int .i64 x1, .int .i64 x2, .int .i64 x3] 303)).alloc (.cells #[.int .i64 y1, .int .i64 y2, .int .i64 y3] 303));rw [hW2];have k0 : W2.cell? ⟨W.heap.size, 0, none⟩ = some (.int .i64 x1) := by rw [← hW2]; simp
 have k1 : W2.cell? ⟨W.heap.size, 1, none⟩ = some (.int .i64 x2) := by rw [← hW2]; simp
 have k2 : W2.cell? ⟨W.heap.size, 2, none⟩ = some (.int .i64 x3) := by rw [← hW2]; simp
 have l0 : W2.cell? ⟨W.heap.size + 1, 0, none⟩ = some (.int .i64 y1) := by rw [← hW2]; simp
 have l1 : W2.cell? ⟨W.heap.size + 1, 1, none⟩ = some (.int .i64 y2) := by rw [← hW2]; simp
 have l2 : W2.cell? ⟨W.heap.size + 1, 2, none⟩ = some (.int .i64 y3) := by rw [← hW2]; simp
 refine wp_region_still_tail 19 (by kernel_rfl) (by kernel_rfl) ?_;simp only [List.take_succ_cons, List.take_zero, List.drop_succ_cons, List.drop_zero]
 iterate 4 still_step
 still_call (c1 _)
 iterate 6 still_step
 still_call (c2 _)
 iterate 6 still_step
 still_call (c3 _)
 refine wpStill_nil ?_;change wpList _ _ _ _ _ W2.drew
 have fin : ∀ o : Obj, ∃ q os', W2.drew.alloc o = grow (W.drewN q) os' := fun o => by
  refine ⟨1, #[.cells #[.int .i64 x1, .int .i64 x2, .int .i64 x3] 303, .cells #[.int .i64 y1, .int .i64 y2, .int .i64 y3] 303] ++ #[o], ?_⟩;rw [← hW2, alloc_eq_grow, ← grow_grow, alloc_eq_grow, alloc_eq_grow, grow_grow]; rfl
 generalize W2.drew = W3 at fin ⊢;clear k0 k1 k2 l0 l1 l2 c1 c2 c3 hW2;have hor := fun W' h0 h1 h2 => or_c W3.heap.size r1 r2 r3 W' h0 h1 h2;go_wp2_with (go_at_call 273; refine (hor _ (by simp) (by simp) (by simp)).mono ?_; rintro e w' ⟨rfl, rfl⟩);go_ret;exact ⟨rfl, fin _⟩
end Go.Ab
end
section
set_option maxRecDepth 100000
set_option maxHeartbeats 4000000
namespace Go.Proofs
open Go.Ab
@[simp] def ge.m (x0 : List Int) (_x1 : Int) (_x2 : List Int) : List AObj := [.opq (wrO 126 5 x0)]
@[simp] def ge.out (_x0 : List Int) (_x1 : Int) (_x2 : List Int) (r : List Int) : Out := { av := .ptr 0 0, M := some [.opq (wrO 126 5 r)] }
def ge.fin (x0 : List Int) (x1 : Int) (x2 : List Int) (r : List Int) (σ : St) : Prop := finK (ge.out x0 x1 x2 r) (ge.m x0 x1 x2) σ.M (resA Tryz.ty σ.A σ.M Tryz.f102.results.toList)
theorem ge.can (x0 : List Int) (x1 : Int) (x2 : List Int) (r : List Int) (hr : ge x0 x1 x2 = some r) : CallOk Tryz.prog 102 [.ptr 0 0, .lit (.int .i64 x1), .sl (x2.map (eNum .u64)) .no] (ge.m x0 x1 x2) (ge.out x0 x1 x2 r) := by
 unfold ge at hr;have hΓ := (gamL_cons gaA.ok (gamL_nil) : GamOk Tryz.prog _);refine cw Tryz.func102 rfl (by kernel_rfl) rfl rfl (by simp) fun _ _ _ => ?_;refine tq hΓ [] [] ?_;refine tq hΓ [1] [] ?_;refine AWp.seq ?_;refine tq hΓ [13, 14, 15] [2] ?_;refine AWp.loopE (fun (s1 : Int × List Int) (γ1 : Unit) => ⟨[⟨13, none, .sl (x2.map (eNum .u64)) .no⟩, ⟨14, none, .n (lenL x2)⟩, ⟨15, none, .n s1.1⟩, ⟨1, none, .n (minI (maxI x1 1) 8)⟩, ⟨0, none, .ptr 0 0⟩], [.opq (wrO 126 5 s1.2)]⟩) (fun (v1 : List Int) (γ1a : Unit) => ⟨[⟨0, none, .ptr 0 0⟩], [.opq (wrO 126 5 v1)]⟩) (ge.fin x0 x1 x2) hr () 1 (by simp) (fun s1 f γ1 hr => ?_) (fun v1 γ1a σ1 m1 hr hc => ?_) (fun _ h => h)
 ·unfold ge.loop1 at hr;refine tq hΓ [16] [] ?_;refine AWp.seq ?_;refine AWp.cnd hr (by simp) (fun h6 hr => ?_) (fun h6 hr => ?_)
  ·refine AWp.skip ?_;refine AWp.seq ?_;refine AWp.block ?_;obtain ⟨h7, hr⟩ := Lb hr;refine tq hΓ [8] [16] ?_ (by simp [h6, h7]; exact rr);refine tq hΓ [9] [] ?_ (by simp; exact rr);refine AWp.loopE (fun (s2 : Int × List Int) (γ2 : Unit) => ⟨[⟨9, none, .n s2.1⟩, ⟨8, none, .lit (.int .u64 (nthI x2 s1.1))⟩, ⟨13, none, .sl (x2.map (eNum .u64)) .no⟩, ⟨14, none, .n (lenL x2)⟩, ⟨15, none, .n s1.1⟩, ⟨1, none, .n (minI (maxI x1 1) 8)⟩, ⟨0, none, .ptr 0 0⟩], [.opq (wrO 126 5 s2.2)]⟩) (fun (v2 : List Int) (γ2a : Unit) => ⟨[⟨13, none, .sl (x2.map (eNum .u64)) .no⟩, ⟨14, none, .n (lenL x2)⟩, ⟨15, none, .n s1.1⟩, ⟨1, none, .n (minI (maxI x1 1) 8)⟩, ⟨0, none, .ptr 0 0⟩], [.opq (wrO 126 5 v2)]⟩) (QRr (ge.fin x0 x1 x2)) hr () 1 (by simp) (fun s2 f γ2 hr => ?_) (fun v2 γ2a σ1 m1 hr hc => ?_) (fun _ h => QRr_ret h)
   ·unfold ge.loop2 at hr;refine AWp.seq ?_;refine tq hΓ [22] [] ?_ (by simp; exact rr);refine AWp.cnd hr (by simp) (fun h8 hr => ?_) (fun h8 hr => ?_)
    ·refine AWp.skip ?_;refine AWp.seq ?_;refine AWp.block ?_;obtain ⟨h9, hr⟩ := Lb hr;obtain ⟨h10, hr⟩ := Lb hr;refine AWp.lst (AWp.regD Tryz.mixed Tryz.tyOk hΓ [] [22] [] [(false, []), (false, []), (false, []), (false, []), (false, []), (false, []), (false, []), (false, []), (true, [])] (by kernel_rfl) rfl (by simp [h8, h9, h10]; exact rr)) ?_;refine tl hΓ [9] [] ?_ (by simp; exact rr);obtain rfl := La hr;exact Lo () 1 (by first | (simp; done) | simp [h6, h7, h8, h9, h10])
    ·refine AWp.exit ?_;obtain rfl := La hr;exact Lp () 1 (by first | (simp; done) | simp [h6, h7, h8])
   ·refine AWp.conv hc ?_;refine tl hΓ [15] [] ?_ (by simp; exact rr);obtain rfl := La hr;exact Lo () 1 (by first | (simp; done) | simp [h6, h7])
  ·refine AWp.exit ?_;obtain rfl := La hr;exact Lp () 1 (by first | (simp; done) | simp [h6])
 ·refine AWp.conv hc ?_;refine tq hΓ [6] [0] ?_;obtain rfl := La hr;exact AWp.ret (Ld (by simp))
@[simp] noncomputable def ge.S : Sp
  | [.ptr i0 0, .lit (.int .i64 x1), .sl e2 _], M => (rdQ M i0).bind fun c0 => some { av := .ptr i0 0, M := some (M.set i0 (.opq (wrO 126 5 ((ge c0.bs x1 (e2.map decI)).getD dflt)))), obl := e2 = (e2.map decI).map (eNum .u64) ∧ c0 = wrO 126 5 c0.bs ∧ (ge c0.bs x1 (e2.map decI)).isSome = true }
  | _, _ => none
theorem ge.ok : SpecOk Tryz.prog 102 ge.S := by
 intro l M out h;unfold ge.S at h;split at h
 ·rename_i i0 x1 e2 k2;obtain ⟨c0, hM0, h⟩ := bQ h;cases h;refine callOk_of fun ho => ?_;obtain ⟨ox2, oc0, hs⟩ := ho;generalize c0.bs = y0 at *
  generalize (e2.map decI) = x2 at *
  subst ox2;subst oc0;obtain ⟨r, hr⟩ := so1 hs;simp only [hr, gd1];have q := Lg (M := M) [i0] (ge.can y0 x1 x2 r hr) (by simp) rfl (ix (by simp [hM0]) ixn);exact callOk_conv q trivial (by simp [into]) (by simp [frameOut, into]) (by simp [frameOut, into])
 ·cases h
@[simp] def gj.m (x0 : List Int) (_x1 : List Int) : List AObj := [.opq (wrO 126 5 x0)]
@[simp] def gj.out (_x0 : List Int) (_x1 : List Int) (r : List Int) : Out := { av := .ptr 0 0, M := some [.opq (wrO 126 5 r)] }
def gj.fin (x0 : List Int) (x1 : List Int) (r : List Int) (σ : St) : Prop := finK (gj.out x0 x1 r) (gj.m x0 x1) σ.M (resA Tryz.ty σ.A σ.M Tryz.f70.results.toList)
theorem gj.can (x0 : List Int) (x1 : List Int) (r : List Int) (hr : gj x0 x1 = some r) : CallOk Tryz.prog 70 [.ptr 0 0, .sl (x1.map (eNum .u16)) .no] (gj.m x0 x1) (gj.out x0 x1 r) := by
 unfold gj at hr;have hΓ := (gamL_cons ge.ok (gamL_nil) : GamOk Tryz.prog _);refine cw Tryz.func70 rfl (by kernel_rfl) rfl rfl (by simp) fun _ _ _ => ?_;refine tq hΓ [] [] ?_;refine AWp.seq ?_;refine tq hΓ [7, 8, 9] [1] ?_;refine AWp.loopE (fun (s1 : Int × List Int) (γ1 : Unit) => ⟨[⟨7, none, .sl (x1.map (eNum .u16)) .no⟩, ⟨8, none, .n (lenL x1)⟩, ⟨9, none, .n s1.1⟩, ⟨0, none, .ptr 0 0⟩], [.opq (wrO 126 5 s1.2)]⟩) (fun (v1 : List Int) (γ1a : Unit) => ⟨[⟨0, none, .ptr 0 0⟩], [.opq (wrO 126 5 v1)]⟩) (gj.fin x0 x1) hr () 1 (by simp) (fun s1 f γ1 hr => ?_) (fun v1 γ1a σ1 m1 hr hc => ?_) (fun _ h => h)
 ·unfold gj.loop1 at hr;refine tq hΓ [10] [] ?_;refine AWp.seq ?_;refine AWp.cnd hr (by simp) (fun h4 hr => ?_) (fun h4 hr => ?_)
  ·refine AWp.skip ?_;refine AWp.seq ?_;refine AWp.block ?_;obtain ⟨h5, hr⟩ := Lb hr;refine tq hΓ [6] [10] ?_ (by simp [h4, h5]; exact rr);obtain ⟨r1, h6, hr⟩ := Le hr;refine tl hΓ [] [6] ?_ (by simp [h6]; exact rr);refine tl hΓ [9] [] ?_ (by simp; exact rr);obtain rfl := La hr;exact Lo () 1 (by first | (simp; done) | simp [h4, h5, h6])
  ·refine AWp.exit ?_;obtain rfl := La hr;exact Lp () 1 (by first | (simp; done) | simp [h4])
 ·refine AWp.conv hc ?_;refine tq hΓ [4] [0] ?_;obtain rfl := La hr;exact AWp.ret (Ld (by simp))
@[simp] noncomputable def gj.S : Sp
  | [.ptr i0 0, .sl e1 _], M => (rdQ M i0).bind fun c0 => some { av := .ptr i0 0, M := some (M.set i0 (.opq (wrO 126 5 ((gj c0.bs (e1.map decI)).getD dflt)))), obl := e1 = (e1.map decI).map (eNum .u16) ∧ c0 = wrO 126 5 c0.bs ∧ (gj c0.bs (e1.map decI)).isSome = true }
  | _, _ => none
theorem gj.ok : SpecOk Tryz.prog 70 gj.S := by
 intro l M out h;unfold gj.S at h;split at h
 ·rename_i i0 e1 k1;obtain ⟨c0, hM0, h⟩ := bQ h;cases h;refine callOk_of fun ho => ?_;obtain ⟨ox1, oc0, hs⟩ := ho;generalize c0.bs = y0 at *
  generalize (e1.map decI) = x1 at *
  subst ox1;subst oc0;obtain ⟨r, hr⟩ := so1 hs;simp only [hr, gd1];have q := Lg (M := M) [i0] (gj.can y0 x1 r hr) (by simp) rfl (ix (by simp [hM0]) ixn);exact callOk_conv q trivial (by simp [into]) (by simp [frameOut, into]) (by simp [frameOut, into])
 ·cases h
@[simp] def gk.m (x0 : List Int) (_x1 : List Int) : List AObj := [.opq (wrO 126 5 x0)]
@[simp] def gk.out (_x0 : List Int) (_x1 : List Int) (r : List Int) : Out := { av := .ptr 0 0, M := some [.opq (wrO 126 5 r)] }
def gk.fin (x0 : List Int) (x1 : List Int) (r : List Int) (σ : St) : Prop := finK (gk.out x0 x1 r) (gk.m x0 x1) σ.M (resA Tryz.ty σ.A σ.M Tryz.f72.results.toList)
theorem gk.can (x0 : List Int) (x1 : List Int) (r : List Int) (hr : gk x0 x1 = some r) : CallOk Tryz.prog 72 [.ptr 0 0, .sl (x1.map (eNum .u32)) .no] (gk.m x0 x1) (gk.out x0 x1 r) := by
 unfold gk at hr;have hΓ := (gamL_cons ge.ok (gamL_nil) : GamOk Tryz.prog _);refine cw Tryz.func72 rfl (by kernel_rfl) rfl rfl (by simp) fun _ _ _ => ?_;refine tq hΓ [] [] ?_;refine AWp.seq ?_;refine tq hΓ [7, 8, 9] [1] ?_;refine AWp.loopE (fun (s1 : Int × List Int) (γ1 : Unit) => ⟨[⟨7, none, .sl (x1.map (eNum .u32)) .no⟩, ⟨8, none, .n (lenL x1)⟩, ⟨9, none, .n s1.1⟩, ⟨0, none, .ptr 0 0⟩], [.opq (wrO 126 5 s1.2)]⟩) (fun (v1 : List Int) (γ1a : Unit) => ⟨[⟨0, none, .ptr 0 0⟩], [.opq (wrO 126 5 v1)]⟩) (gk.fin x0 x1) hr () 1 (by simp) (fun s1 f γ1 hr => ?_) (fun v1 γ1a σ1 m1 hr hc => ?_) (fun _ h => h)
 ·unfold gk.loop1 at hr;refine tq hΓ [10] [] ?_;refine AWp.seq ?_;refine AWp.cnd hr (by simp) (fun h4 hr => ?_) (fun h4 hr => ?_)
  ·refine AWp.skip ?_;refine AWp.seq ?_;refine AWp.block ?_;obtain ⟨h5, hr⟩ := Lb hr;refine tq hΓ [6] [10] ?_ (by simp [h4, h5]; exact rr);obtain ⟨r1, h6, hr⟩ := Le hr;refine tl hΓ [] [6] ?_ (by simp [h6]; exact rr);refine tl hΓ [9] [] ?_ (by simp; exact rr);obtain rfl := La hr;exact Lo () 1 (by first | (simp; done) | simp [h4, h5, h6])
  ·refine AWp.exit ?_;obtain rfl := La hr;exact Lp () 1 (by first | (simp; done) | simp [h4])
 ·refine AWp.conv hc ?_;refine tq hΓ [4] [0] ?_;obtain rfl := La hr;exact AWp.ret (Ld (by simp))
@[simp] noncomputable def gk.S : Sp
  | [.ptr i0 0, .sl e1 _], M => (rdQ M i0).bind fun c0 => some { av := .ptr i0 0, M := some (M.set i0 (.opq (wrO 126 5 ((gk c0.bs (e1.map decI)).getD dflt)))), obl := e1 = (e1.map decI).map (eNum .u32) ∧ c0 = wrO 126 5 c0.bs ∧ (gk c0.bs (e1.map decI)).isSome = true }
  | _, _ => none
theorem gk.ok : SpecOk Tryz.prog 72 gk.S := by
 intro l M out h;unfold gk.S at h;split at h
 ·rename_i i0 e1 k1;obtain ⟨c0, hM0, h⟩ := bQ h;cases h;refine callOk_of fun ho => ?_;obtain ⟨ox1, oc0, hs⟩ := ho;generalize c0.bs = y0 at *
  generalize (e1.map decI) = x1 at *
  subst ox1;subst oc0;obtain ⟨r, hr⟩ := so1 hs;simp only [hr, gd1];have q := Lg (M := M) [i0] (gk.can y0 x1 r hr) (by simp) rfl (ix (by simp [hM0]) ixn);exact callOk_conv q trivial (by simp [into]) (by simp [frameOut, into]) (by simp [frameOut, into])
 ·cases h
@[simp] def gl.m (x0 : List Int) (_x1 : List ByteArray) : List AObj := [.opq (wrO 126 5 x0)]
@[simp] def gl.out (_x0 : List Int) (_x1 : List ByteArray) (r : List Int) : Out := { av := .ptr 0 0, M := some [.opq (wrO 126 5 r)] }
def gl.fin (x0 : List Int) (x1 : List ByteArray) (r : List Int) (σ : St) : Prop := finK (gl.out x0 x1 r) (gl.m x0 x1) σ.M (resA Tryz.ty σ.A σ.M Tryz.f69.results.toList)
theorem gl.can (x0 : List Int) (x1 : List ByteArray) (r : List Int) (hr : gl x0 x1 = some r) : CallOk Tryz.prog 69 [.ptr 0 0, .sl (x1.map eTxt) .no] (gl.m x0 x1) (gl.out x0 x1 r) := by
 unfold gl at hr;have hΓ := (gamL_cons gaB.ok (gamL_nil) : GamOk Tryz.prog _);refine cw Tryz.func69 rfl (by kernel_rfl) rfl rfl (by simp) fun _ _ _ => ?_;refine tq hΓ [] [] ?_;refine AWp.seq ?_;refine tq hΓ [7, 8, 9] [1] ?_;refine AWp.loopE (fun (s1 : Int × List Int) (γ1 : Unit) => ⟨[⟨7, none, .sl (x1.map eTxt) .no⟩, ⟨8, none, .n (lenL x1)⟩, ⟨9, none, .n s1.1⟩, ⟨0, none, .ptr 0 0⟩], [.opq (wrO 126 5 s1.2)]⟩) (fun (v1 : List Int) (γ1a : Unit) => ⟨[⟨0, none, .ptr 0 0⟩], [.opq (wrO 126 5 v1)]⟩) (gl.fin x0 x1) hr () 1 (by simp) (fun s1 f γ1 hr => ?_) (fun v1 γ1a σ1 m1 hr hc => ?_) (fun _ h => h)
 ·unfold gl.loop1 at hr;refine tq hΓ [10] [] ?_;refine AWp.seq ?_;refine AWp.cnd hr (by simp) (fun h5 hr => ?_) (fun h5 hr => ?_)
  ·refine AWp.skip ?_;refine AWp.seq ?_;refine AWp.block ?_;obtain ⟨h6, hr⟩ := Lb hr;refine tq hΓ [6] [10] ?_ (by simp [h5, h6]; exact rr);obtain ⟨h7, hr⟩ := Lb hr;obtain ⟨h8, hr⟩ := Lb hr;refine tl hΓ [] [6] ?_ (by simp [h7, h8]; exact rr);refine tl hΓ [9] [] ?_ (by simp; exact rr);obtain rfl := La hr;exact Lo () 1 (by first | (simp; done) | simp [h5, h6, h7, h8])
  ·refine AWp.exit ?_;obtain rfl := La hr;exact Lp () 1 (by first | (simp; done) | simp [h5])
 ·refine AWp.conv hc ?_;refine tq hΓ [4] [0] ?_;obtain rfl := La hr;exact AWp.ret (Ld (by simp))
@[simp] noncomputable def gl.S : Sp
  | [.ptr i0 0, .sl e1 _], M => (rdQ M i0).bind fun c0 => some { av := .ptr i0 0, M := some (M.set i0 (.opq (wrO 126 5 ((gl c0.bs (e1.map decS)).getD dflt)))), obl := e1 = (e1.map decS).map eTxt ∧ c0 = wrO 126 5 c0.bs ∧ (gl c0.bs (e1.map decS)).isSome = true }
  | _, _ => none
theorem gl.ok : SpecOk Tryz.prog 69 gl.S := by
 intro l M out h;unfold gl.S at h;split at h
 ·rename_i i0 e1 k1;obtain ⟨c0, hM0, h⟩ := bQ h;cases h;refine callOk_of fun ho => ?_;obtain ⟨ox1, oc0, hs⟩ := ho;generalize c0.bs = y0 at *
  generalize (e1.map decS) = x1 at *
  subst ox1;subst oc0;obtain ⟨r, hr⟩ := so1 hs;simp only [hr, gd1];have q := Lg (M := M) [i0] (gl.can y0 x1 r hr) (by simp) rfl (ix (by simp [hM0]) ixn);exact callOk_conv q trivial (by simp [into]) (by simp [frameOut, into]) (by simp [frameOut, into])
 ·cases h
end Go.Proofs
end
section
namespace Go.Ab
def ofB (l : List UInt8) : ByteArray := ⟨l.toArray⟩
theorem ofB_b (l : List UInt8) : bytesOf (ofB l) = l := lit_b l
theorem ofB_of (s : ByteArray) : ofB (bytesOf s) = s := bytes_ext (ofB_b _)
theorem lenS_of (l : List UInt8) : lenS (ofB l) = (l.length : Int) := by rw [lenS_b, ofB_b]
theorem size_of (l : List UInt8) : (ofB l).size = l.length := by rw [← bytesOf_len, ofB_b]
def val (l : List UInt8) : Int := l.foldl (fun x b => x * 256 + (b.toNat : Int)) 0
def be : Nat → Int → List UInt8
 | 0, _ => []
 | n + 1, x => be n (x / 256) ++ [(x % 256).toNat.toUInt8]
theorem val_snoc (l : List UInt8) (b : UInt8) : val (l ++ [b]) = val l * 256 + (b.toNat : Int) := by simp [val]
theorem be_len : ∀ (n : Nat) (x : Int), (be n x).length = n
 | 0, _ => rfl
 | n + 1, x => by simp [be, be_len n]
theorem byte_of {x : Int} (h0 : 0 ≤ x) (h1 : x < 256) : ((x.toNat.toUInt8).toNat : Int) = x := by
 obtain ⟨n, rfl⟩ : ∃ n : Nat, x = n := ⟨x.toNat, by omega⟩;simp;omega
theorem be_val : ∀ (n : Nat) (l : List UInt8), l.length = n → be n (val l) = l
 | 0, l, h => by
   have : l = [] := List.eq_nil_of_length_eq_zero h;subst this; rfl
 | n + 1, l, h => by
   rcases List.eq_nil_or_concat l with e | ⟨q, b, e⟩
   ·subst e; simp at h
   ·rw [List.concat_eq_append] at e;subst e;have hb := b.toNat_lt;have hq : q.length = n := by simpa using h
    rw [be, val_snoc];have e1 : (val q * 256 + (b.toNat : Int)) / 256 = val q := by omega
    have e2 : (val q * 256 + (b.toNat : Int)) % 256 = b.toNat := by omega
    rw [e1, e2, be_val n q hq];simp
theorem val_rng : ∀ (n : Nat) (l : List UInt8), l.length = n → 0 ≤ val l ∧ val l < 256 ^ n
 | 0, l, h => by
   have : l = [] := List.eq_nil_of_length_eq_zero h;subst this; simp [val]
 | n + 1, l, h => by
   rcases List.eq_nil_or_concat l with e | ⟨q, b, e⟩
   ·subst e; simp at h
   ·rw [List.concat_eq_append] at e;subst e;have hb := b.toNat_lt;have ih := val_rng n q (by simpa using h);rw [val_snoc, Int.pow_succ];omega
inductive Rd (α : Type) where
 | ret (a : α)
 | rd (n : Nat) (k : List UInt8 → Rd α)
 | bad (e : Int) (k : Rd α)
def stp (n : Nat) (l : List UInt8) (e : Int) : List UInt8 × List UInt8 × Int :=
 if e ≠ 0 then ([], l, e) else if l.length < n then ([], [], 1) else (l.take n, l.drop n, 0)
section
variable {α : Type}
def num (n : Nat) (k : Int → Rd α) : Rd α := .rd n fun b => k (val b)
def tru (k : Bool → Rd α) : Rd α := .rd 1 fun b => if 1 < val b then .bad 2 (k false) else k (decide (val b = 1))
def many : Nat → List Int → (List Int → Rd α) → Rd α
 | 0, acc, k => k acc
 | m + 1, acc, k => num 4 fun x => many m (acc ++ [x]) k
def bitB (b : Bool) : UInt8 := if b then 1 else 0
end
end Go.Ab
end
