/- That these functions compute what their plain functions do. No condition. -/
import Derived.Test.YtnoeflijefijcaaM01
import Derived.Test.YtnoeflijefijcaaTy
import Derived.Test.YtnoeflijefijcaaAb8
import Derived.Test.YtnoeflijefijcaaKl
section
set_option maxRecDepth 100000
set_option maxHeartbeats 4000000
namespace Go.Proofs
open Go.Ab
@[simp] def gas.out (_x0 : Int) (r : Bool) : Out := { av := .lit (.bool r), M := none }
theorem gas.can (x0 : Int) (r : Bool) (hr : gas x0 = some r) : CallOk Try.prog 100 [.lit (.int .i64 x0)] [] (gas.out x0 r) := by
 unfold gas at hr
 have hΓ := gamL_nil (P := Try.prog)
 refine Lg Try.tyOk Try.func100 rfl (by kernel_rfl) rfl rfl (by simp) ?_
 intro _ _ _
 refine Try.tg hΓ [] [] (by kernel_rfl) rfl (by simp; exact rr) ?_
 refine Try.tg hΓ [2] [0] (by kernel_rfl) rfl (by simp; exact rr) ?_
 refine AWp.ret ?_
 obtain rfl := La hr
 refine Lf ?_
 simp

@[simp] noncomputable def gas.S : Sp
 | [.lit (.int .i64 x0)], _ => some { av := .lit (.bool ((gas x0).getD dflt)), M := none, obl := (gas x0).isSome = true }
 | _, _ => none

theorem gas.ok : SpecOk Try.prog 100 gas.S := by
 intro l M out h
 unfold gas.S at h
 split at h
 ·rename_i x0
  cases h
  refine callOk_of fun ho => ?_
  have hs := ho
  obtain ⟨r, hr⟩ := Option.isSome_iff_exists.1 hs
  simp only [hr, Option.getD_some]
  have q := Lk (M := M) [] (gas.can x0 r hr) (by simp) rfl (by intro k i hk; simp at hk)
  exact callOk_conv q trivial (by simp) (by simp [frameOut, gas.out]) (by simp [frameOut, gas.out])
 ·cases h

@[simp] def gaz.out (_x0 : Int) (_x1 : Int) (r : Bool) : Out := { av := .lit (.bool r), M := none }
theorem gaz.can (x0 : Int) (x1 : Int) (r : Bool) (hr : gaz x0 x1 = some r) : CallOk Try.prog 88 [.lit (.int .i64 x0), .lit (.int .i64 x1)] [] (gaz.out x0 x1 r) := by
 unfold gaz at hr
 have hΓ := (gamL_cons gas.ok (gamL_nil) : GamOk Try.prog _)
 refine Lg Try.tyOk Try.func88 rfl (by kernel_rfl) rfl rfl (by simp) ?_
 intro _ _ _
 refine Try.tg hΓ [] [] (by kernel_rfl) rfl (by simp; exact rr) ?_
 obtain ⟨r1, h3, hr⟩ := Lc hr
 obtain ⟨h4, hr⟩ := Lb hr
 refine Try.tg hΓ [4] [0, 1] (by kernel_rfl) rfl (by simp [h3, h4]; exact rr) ?_
 refine AWp.ret ?_
 obtain rfl := La hr
 refine Lf ?_
 simp

@[simp] noncomputable def gaz.S : Sp
 | [.lit (.int .i64 x0), .lit (.int .i64 x1)], _ => some { av := .lit (.bool ((gaz x0 x1).getD dflt)), M := none, obl := (gaz x0 x1).isSome = true }
 | _, _ => none

theorem gaz.ok : SpecOk Try.prog 88 gaz.S := by
 intro l M out h
 unfold gaz.S at h
 split at h
 ·rename_i x0 x1
  cases h
  refine callOk_of fun ho => ?_
  have hs := ho
  obtain ⟨r, hr⟩ := Option.isSome_iff_exists.1 hs
  simp only [hr, Option.getD_some]
  have q := Lk (M := M) [] (gaz.can x0 x1 r hr) (by simp) rfl (by intro k i hk; simp at hk)
  exact callOk_conv q trivial (by simp) (by simp [frameOut, gaz.out]) (by simp [frameOut, gaz.out])
 ·cases h

@[simp] def gS.out (_x0 : Int) (r : Bool) : Out := { av := .lit (.bool r), M := none }
theorem gS.can (x0 : Int) (r : Bool) (hr : gS x0 = some r) : CallOk Try.prog 101 [.lit (.int .i64 x0)] [] (gS.out x0 r) := by
 unfold gS at hr
 have hΓ := gamL_nil (P := Try.prog)
 refine Lg Try.tyOk Try.func101 rfl (by kernel_rfl) rfl rfl (by simp) ?_
 intro _ _ _
 refine Try.tg hΓ [] [] (by kernel_rfl) rfl (by simp; exact rr) ?_
 refine Try.tg hΓ [2] [0] (by kernel_rfl) rfl (by simp; exact rr) ?_
 refine AWp.ret ?_
 obtain rfl := La hr
 refine Lf ?_
 simp

@[simp] noncomputable def gS.S : Sp
 | [.lit (.int .i64 x0)], _ => some { av := .lit (.bool ((gS x0).getD dflt)), M := none, obl := (gS x0).isSome = true }
 | _, _ => none

theorem gS.ok : SpecOk Try.prog 101 gS.S := by
 intro l M out h
 unfold gS.S at h
 split at h
 ·rename_i x0
  cases h
  refine callOk_of fun ho => ?_
  have hs := ho
  obtain ⟨r, hr⟩ := Option.isSome_iff_exists.1 hs
  simp only [hr, Option.getD_some]
  have q := Lk (M := M) [] (gS.can x0 r hr) (by simp) rfl (by intro k i hk; simp at hk)
  exact callOk_conv q trivial (by simp) (by simp [frameOut, gS.out]) (by simp [frameOut, gS.out])
 ·cases h

@[simp] def ge.out (_x0 : List Int) (_x1 : Int) (r : Int × Bool) : Out := { av := .tup [.lit (.int .i64 r.1), .lit (.bool r.2)], M := none }
def ge.fin (x0 : List Int) (x1 : Int) (r : Int × Bool) (σ : St) : Prop := finK (ge.out x0 x1 r) [] σ.M (resA Try.ty σ.A σ.M Try.f94.results.toList)
theorem ge.can (x0 : List Int) (x1 : Int) (r : Int × Bool) (hr : ge x0 x1 = some r) : CallOk Try.prog 94 [.sl (x0.map (eNum .i64)) .no, .lit (.int .i64 x1)] [] (ge.out x0 x1 r) := by
 unfold ge at hr
 have hΓ := (gamL_cons gaz.ok (gamL_cons gS.ok (gamL_nil)) : GamOk Try.prog _)
 refine Lg Try.tyOk Try.func94 rfl (by kernel_rfl) rfl rfl (by simp) ?_
 intro _ _ _
 refine Try.tg hΓ [] [] (by kernel_rfl) rfl (by simp; exact rr) ?_
 refine Try.tg hΓ [6] [] (by kernel_rfl) rfl (by simp; exact rr) ?_
 refine Try.tg hΓ [7, 8] [] (by kernel_rfl) rfl (by simp; exact rr) ?_
 refine AWp.loopB (fun (s1 : Int × Int) (γ1 : Unit) => ⟨[⟨7, none, .n s1.1⟩, ⟨8, none, .n s1.2⟩, ⟨6, none, .n (lenL x0)⟩, ⟨0, none, .sl (x0.map (eNum .i64)) .no⟩, ⟨1, none, .n x1⟩], []⟩) (fun (v1 : Int) (γ1a : Unit) => ⟨[⟨7, none, .n v1⟩, ⟨6, none, .n (lenL x0)⟩, ⟨0, none, .sl (x0.map (eNum .i64)) .no⟩, ⟨1, none, .n x1⟩], []⟩) (ge.fin x0 x1) hr () 0 (by simp) (fun s1 f γ1 hr => ?_) (fun v1 γ1a hr => ?_) (fun _ h => h)
 ·unfold ge.loop1 at hr
  refine AWp.seq ?_
  refine Try.tg hΓ [15] [] (by kernel_rfl) rfl (by simp; exact rr) ?_
  refine AWp.cond (b := (ltI s1.1 s1.2)) (by simp) (fun h10 => ?_) (fun h10 => ?_)
  ·have hr := Li h10 hr
   refine AWp.skip ?_
   refine AWp.block ?_
   obtain ⟨h11, hr⟩ := Lb hr
   refine Try.tg hΓ [9] [15] (by kernel_rfl) rfl (by simp [h10, h11]; exact rr) ?_
   obtain ⟨h12, hr⟩ := Lb hr
   obtain ⟨r1, h13, hr⟩ := Lc hr
   refine Try.tg hΓ [27] [] (by kernel_rfl) rfl (by simp [h12, h13]; exact rr) ?_
   refine AWp.cond (b := r1) (by simp) (fun h14 => ?_) (fun h14 => ?_)
   ·have hr := Li h14 hr
    refine AWp.lst (AWp.reg Try.tyOk hΓ [7] [27, 9] (by kernel_rfl) rfl (by simp [h14]; exact rr)) ?_
    obtain rfl := La hr
    exact Lm () 0 (by first | (simp; done) | simp [h10, h11, h12, h13, h14])
   ·have hr := Lj h14 hr
    refine AWp.lst (AWp.reg Try.tyOk hΓ [8] [27, 9] (by kernel_rfl) rfl (by simp [h14]; exact rr)) ?_
    obtain rfl := La hr
    exact Lm () 0 (by first | (simp; done) | simp [h10, h11, h12, h13, h14])
  ·have hr := Lj h10 hr
   refine AWp.exit ?_
   obtain rfl := La hr
   exact Lp () 0 (by first | (simp; done) | simp [h10])
 ·obtain ⟨h15, hr⟩ := Lb hr
  obtain ⟨h16, hr⟩ := Lb hr
  obtain ⟨h17, hr⟩ := Lb hr
  obtain ⟨h18, hr⟩ := Lb hr
  refine Try.tg hΓ [4, 5] [7, 6, 0, 1] (by kernel_rfl) rfl (by simp [h15, h17, h18]; exact rr) ?_
  refine AWp.ret ?_
  obtain rfl := La hr
  refine Lf ?_
  simp

@[simp] noncomputable def ge.S : Sp
 | [.sl e0 _, .lit (.int .i64 x1)], _ => some { av := .tup [.lit (.int .i64 (((ge (e0.map decI) x1).getD dflt).1)), .lit (.bool (((ge (e0.map decI) x1).getD dflt).2))], M := none, obl := e0 = (e0.map decI).map (eNum .i64) ∧ (ge (e0.map decI) x1).isSome = true }
 | _, _ => none

theorem ge.ok : SpecOk Try.prog 94 ge.S := by
 intro l M out h
 unfold ge.S at h
 split at h
 ·rename_i e0 k0 x1
  cases h
  refine callOk_of fun ho => ?_
  obtain ⟨ox0, hs⟩ := ho
  generalize (e0.map decI) = x0 at *
  subst ox0
  obtain ⟨r, hr⟩ := Option.isSome_iff_exists.1 hs
  simp only [hr, Option.getD_some]
  have q := Lk (M := M) [] (ge.can x0 x1 r hr) (by simp) rfl (by intro k i hk; simp at hk)
  exact callOk_conv q trivial (by simp) (by simp [frameOut, ge.out]) (by simp [frameOut, ge.out])
 ·cases h
end Go.Proofs
end
section
namespace Go.Ab
theorem eqI_d (a b : Int) : eqI a b = decide (a = b) := by
  unfold eqI; by_cases h : a = b <;> simp [h]
theorem neI_d (a b : Int) : neI a b = decide (a ≠ b) := by
  unfold neI; by_cases h : a = b <;> simp [h]
theorem ltI_d (a b : Int) : ltI a b = decide (a < b) := rfl
theorem leI_d (a b : Int) : leqI a b = decide (a ≤ b) := rfl
theorem eqI_t {a b : Int} (h : a = b) : eqI a b = true := by rw [eqI_d]; exact decide_eq_true h
theorem eqI_f {a b : Int} (h : a ≠ b) : eqI a b = false := by rw [eqI_d]; exact decide_eq_false h
theorem neI_f {a b : Int} (h : a = b) : neI a b = false := by rw [neI_d]; exact decide_eq_false (fun q => q h)
theorem ltI_t {a b : Int} (h : a < b) : ltI a b = true := decide_eq_true h
theorem ltI_f {a b : Int} (h : ¬ a < b) : ltI a b = false := decide_eq_false h
theorem leI_t {a b : Int} (h : a ≤ b) : leqI a b = true := decide_eq_true h
theorem leI_f {a b : Int} (h : ¬ a ≤ b) : leqI a b = false := decide_eq_false h
theorem eqB_d (a b : Bool) : eqB a b = decide (a = b) := by cases a <;> cases b <;> rfl
theorem neB_d (a b : Bool) : neB a b = decide (a ≠ b) := by cases a <;> cases b <;> rfl
theorem pickB_and (x y : Bool) : pickB x y false = (x && y) := by cases x <;> rfl
theorem pickB_or (x y : Bool) : pickB x true y = (x || y) := by cases x <;> rfl
theorem minI_d (a b : Int) : minI a b = min a b := rfl
theorem maxI_d (a b : Int) : maxI a b = max a b := rfl
theorem addI_n {a b : Int} (h0 : -9223372036854775808 ≤ a + b) (h1 : a + b < 9223372036854775808) : addI .i64 a b = a + b := wrap64_of h0 h1
theorem subI_n {a b : Int} (h0 : -9223372036854775808 ≤ a - b) (h1 : a - b < 9223372036854775808) : subI .i64 a b = a - b := wrap64_of h0 h1
theorem Le {α : Type} {p : Prop} {x : Option α} (h : p) : need p x = x := by unfold need; rw [if_pos h]
@[simp] theorem flC_go {V X : Type} (v : V) (k : V → Option X) : flC (.go v) k = k v := rfl
@[simp] theorem flC_out {V X : Type} (x : X) (k : V → Option X) : flC (.out x) k = some x := rfl
@[simp] theorem Ld {α β : Type} (x : α) (k : α → Option β) : (some x).bind k = k x := rfl
@[simp] theorem getD_so {α : Type} (x y : α) : (some x).getD y = x := rfl
theorem Lx {e : Bool} {b : Bool} {p : Prop} (h : p) : Under e b p := fun _ => h
theorem lenL_nn {α : Type} (l : List α) : 0 ≤ lenL l := by unfold lenL; omega
theorem optC_none {α β : Type} (x : α) (k : β → α) : optC (none : Option β) x k = x := rfl
theorem optC_some {α β : Type} (b : β) (x : α) (k : β → α) : optC (some b) x k = k b := rfl
theorem notB_t' : notB false = true := rfl
theorem notB_f' : notB true = false := rfl
def RoundP {S T : Type} (I : S → Prop) (Q : T → Prop) (μ : S → Nat) (s : S) : Option (Fl S T) → Prop
  | some (.go s') => I s' ∧ μ s' < μ s
  | some (.out t) => Q t
  | none => False
theorem loop_ends {S T : Type} {body : S → Option (Fl S T)} (I : S → Prop) (Q : T → Prop) (μ : S → Nat) (h : ∀ s, I s → RoundP I Q μ s (body s)) (s : S) (hs : I s) : ∃ t, loopF body s = some t ∧ Q t :=
  loopF_ends I Q μ (fun s hI => by
    have q := h s hI
    cases hb : body s with
    | none => rw [hb] at q; exact q.elim
    | some f =>
      rw [hb] at q
      refine ⟨f, rfl, ?_⟩
      cases f <;> exact q) s hs
end Go.Ab
end
section
namespace Go.Proofs
open Go.Ab
abbrev It := Ta
abbrev RQ := Tn

/-! ### Words for lists -/
theorem Lw {S T : Type} {body : S → Option (Fl S T)} {s s' : S} (h : body s = some (.go s')) : loopF body s = loopF body s' := by rw [loopF_eq, h]
theorem Lq {S T : Type} {body : S → Option (Fl S T)} {s : S} {t : T} (h : body s = some (.out t)) : loopF body s = some t := by rw [loopF_eq, h]
theorem lenL_n {α : Type} (l : List α) : lenL l = (l.length : Int) := rfl
theorem nthI_n {α : Type} [Inhabited α] {l : List α} {k : Nat} (h : k < l.length) : nthI l (k : Int) = l[k] := by simp [nthI, List.getD_eq_getElem?_getD, h]
theorem nthI_0 {α : Type} [Inhabited α] (x : α) (l : List α) : nthI (x :: l) 0 = x := rfl
theorem nthI_mid {α : Type} [Inhabited α] (p : List α) (x : α) (l : List α) : nthI (p ++ x :: l) (p.length : Int) = x := by simp [nthI, List.getD_eq_getElem?_getD]
theorem inb_n {α : Type} {l : List α} {k : Nat} (h : k < l.length) : InB (k : Int) (lenL l) := ⟨by omega, by unfold lenL; omega⟩
theorem inb_0 {α : Type} (x : α) (l : List α) : InB 0 (lenL (x :: l)) := ⟨by omega, by unfold lenL; rw [List.length_cons]; omega⟩
theorem inb_mid {α : Type} (p : List α) (x : α) (l : List α) : InB (p.length : Int) (lenL (p ++ x :: l)) := inb_n (by simp)
theorem cut_tail {α : Type} (l : List α) (k : Nat) : cutL l (k : Int) (lenL l) = l.drop k := by
  unfold cutL lenL
  simp only [Int.toNat_natCast]
  exact List.take_of_length_le (by simp)
theorem cut_head {α : Type} (l : List α) (k : Nat) : cutL l 0 (k : Int) = l.take k := by simp [cutL]
theorem cut_all {α : Type} (l : List α) : cutL l 0 (lenL l) = l := cut_tail l 0
theorem drop_while {α : Type} (p : α → Bool) (l : List α) : l.drop (l.takeWhile p).length = l.dropWhile p := by
  induction l with
  | nil => rfl
  | cons x l ih => cases h : p x <;> simp [h, ih]
theorem take_while {α : Type} (p : α → Bool) (l : List α) : l.take (l.takeWhile p).length = l.takeWhile p := by
  induction l with
  | nil => rfl
  | cons x l ih => cases h : p x <;> simp [h, ih]
theorem app_eq {α : Type} (a b : List α) : appL a b = a ++ b := rfl
theorem Lv (k : Nat) (h : k ≤ 1000000000) : addI .i64 (k : Int) 1 = ((k + 1 : Nat) : Int) := by rw [addI_n (by omega) (by omega)]; omega
theorem appB_n {n m : Int} {b : Nat} (h0 : 0 ≤ n) (h1 : n ≤ 1000000000) (h2 : 0 ≤ m) (h3 : m ≤ 1000000000) (hb : b ≤ 64) : AppB n m b := by
  refine ⟨?_, by omega⟩
  have : (n + m) * b ≤ (n + m) * 64 := Int.mul_le_mul_of_nonneg_left (by omega) (by omega)
  omega
theorem appB_l {α β : Type} (l : List α) (r : List β) {b : Nat} (h1 : l.length ≤ 1000000000) (h3 : r.length ≤ 1000000000) (hb : b ≤ 64) : AppB (lenL l) (lenL r) b :=
  appB_n (lenL_nn l) (by unfold lenL; omega) (lenL_nn r) (by unfold lenL; omega) hb
theorem appB_1 {α : Type} (l : List α) {b : Nat} (h1 : l.length ≤ 1000000000) (hb : b ≤ 64) : AppB (lenL l) 1 b :=
  appB_n (lenL_nn l) (by unfold lenL; omega) (by omega) (by omega) hb
theorem appB_0 {α : Type} (l : List α) {b : Nat} (h1 : l.length ≤ 1000000000) (hb : b ≤ 64) : AppB 0 (lenL l) b :=
  appB_n (by omega) (by omega) (lenL_nn l) (by unfold lenL; omega) hb

/-! ### Sizes -/
def sumS (l : List It) : Int := (l.map (·.fm)).sum
@[simp] theorem sumS_nil : sumS [] = 0 := rfl
@[simp] theorem sumS_cons (x : It) (l : List It) : sumS (x :: l) = x.fm + sumS l := by simp [sumS]
theorem sumS_app (l r : List It) : sumS (l ++ r) = sumS l + sumS r := by simp [sumS]
theorem sumS_nn {l : List It} (h : ∀ x ∈ l, 0 ≤ x.fm) : 0 ≤ sumS l := by
  induction l with
  | nil => simp
  | cons x l ih =>
    rw [sumS_cons]
    have := h x (.head _)
    have := ih fun y hy => h y (.tail _ hy)
    omega

theorem size_ok {l : List It} (hl : l.length ≤ 1000000000) (h : ∀ x ∈ l, 0 ≤ x.fm) (hs : sumS l ≤ 1000000000000) : gJ l = some (sumS l) := by
  have key : ∀ (r p : List It), p ++ r = l → loopF (gJ.loop1 l) ((p.length : Int), sumS p) = some (.go (sumS l)) := by
    intro r
    induction r with
    | nil =>
      intro p hp
      rw [List.append_nil] at hp
      subst hp
      refine Lq ?_
      unfold gJ.loop1
      rw [ltI_f (by unfold lenL; omega)]
      rfl
    | cons x r ih =>
      intro p hp
      have hx : ∀ y ∈ p, 0 ≤ y.fm := fun y hy => h y (hp ▸ List.mem_append_left _ hy)
      have h0 := sumS_nn hx
      have h1 : sumS l = sumS p + (x.fm + sumS r) := by rw [← hp, sumS_app, sumS_cons]
      have h2 := h x (hp ▸ List.mem_append_right _ (.head _))
      have h3 := sumS_nn (l := r) fun y hy => h y (hp ▸ List.mem_append_right _ (.tail _ hy))
      have hlen : l.length = p.length + r.length + 1 := by rw [← hp]; simp; omega
      have hb : gJ.loop1 l ((p.length : Int), sumS p) = some (.go (((p ++ [x]).length : Int), sumS (p ++ [x]))) := by
        unfold gJ.loop1
        simp only
        rw [ltI_t (by unfold lenL; omega), cond_true, Le (by rw [← hp]; exact inb_mid p x r), Lv _ (by omega)]
        have : nthI l (p.length : Int) = x := by rw [← hp]; exact nthI_mid p x r
        rw [this, addI_n (by omega) (by omega), sumS_app]
        simp
      rw [Lw hb]
      exact ih (p ++ [x]) (by simpa using hp)
  unfold gJ
  have := key l [] rfl
  simp only [List.length_nil, sumS_nil] at this
  rw [show ((0 : Nat) : Int) = 0 from rfl] at this
  rw [this]; rfl

/-! ### What is dropped with the first one -/
def nk (x : It) : Bool := !x.fz
def goneL : List It → List It
  | [] => []
  | x :: r => x :: r.takeWhile nk
def leftL : List It → List It
  | [] => []
  | _ :: r => r.dropWhile nk
theorem gone_left (l : List It) : goneL l ++ leftL l = l := by
  cases l with
  | nil => rfl
  | cons x r => simp [goneL, leftL]
theorem left_lt {l : List It} (h : l ≠ []) : (leftL l).length < l.length := by
  cases l with
  | nil => exact absurd rfl h
  | cons x r =>
    have := (List.dropWhile_sublist nk (l := r)).length_le
    simp only [leftL, List.length_cons]; omega
def rdrop (q : RQ) : RQ := ⟨q.fh, q.fb, leftL q.fL, q.fv || decide (leftL q.fL = [])⟩
theorem rdrop_ok {q : RQ} (hq : q.fL ≠ []) (hl : q.fL.length ≤ 1000000000) : gW q = some (rdrop q, goneL q.fL) := by
  have key : ∀ (r p : List It), q.fL = p ++ r → loopF (gW.loop1 q) (p.length : Int) = some (.go (((p.length + (r.takeWhile nk).length : Nat)) : Int)) := by
    intro r
    induction r with
    | nil =>
      intro p hp
      refine Lq ?_
      unfold gW.loop1
      rw [hp, List.append_nil, ltI_f (by unfold lenL; omega), Le (show Under false true _ from fun h => by cases h)]
      simp [pickB]
    | cons x r ih =>
      intro p hp
      have hlen : q.fL.length = p.length + r.length + 1 := by rw [hp]; simp; omega
      have hn : nthI q.fL (p.length : Int) = x := by rw [hp]; exact nthI_mid p x r
      have hi : InB (p.length : Int) (lenL q.fL) := by rw [hp]; exact inb_mid p x r
      by_cases hk : x.fz = true
      · refine Lq ?_
        unfold gW.loop1
        rw [ltI_t (by unfold lenL; omega), Le (Lx hi), hn, hk]
        simp [pickB, notB, nk, hk]
      · have hk' : x.fz = false := by simpa using hk
        have hb : gW.loop1 q (p.length : Int) = some (.go (((p ++ [x]).length : Int))) := by
          unfold gW.loop1
          rw [ltI_t (by unfold lenL; omega), Le (Lx hi), hn, hk', Lv _ (by omega)]
          simp [pickB, notB]
        rw [Lw hb, ih (p ++ [x]) (by simpa using hp)]
        simp [nk, hk']
        omega
  cases hl' : q.fL with
  | nil => exact absurd hl' hq
  | cons x r =>
    have h1 := key r [x] (by rw [hl']; rfl)
    unfold gW
    rw [show loopF (gW.loop1 q) 1 = _ from h1]
    simp only [Ld, flC_go]
    have hle := (List.takeWhile_sublist nk (l := r)).length_le
    have hlen : q.fL.length = r.length + 1 := by rw [hl']; simp
    rw [Le ⟨by omega, by omega, by rw [lenL_n, hlen]; simp; omega⟩, Le ⟨by omega, by rw [lenL_n, hlen]; simp; omega, Int.le_refl _⟩, cut_tail, cut_head, hl']
    have e1 : (x :: r).drop ([x].length + (r.takeWhile nk).length) = r.dropWhile nk := by
      rw [show [x].length + (r.takeWhile nk).length = (r.takeWhile nk).length + 1 by simp; omega, List.drop_succ_cons, drop_while]
    have e2 : (x :: r).take ([x].length + (r.takeWhile nk).length) = x :: r.takeWhile nk := by
      rw [show [x].length + (r.takeWhile nk).length = (r.takeWhile nk).length + 1 by simp; omega, List.take_succ_cons, take_while]
    rw [e1, e2]
    unfold rdrop
    rw [hl']
    have e3 : pickB q.fv true (eqI (lenL (r.dropWhile nk)) 0) = (q.fv || decide (r.dropWhile nk = [])) := by
      rw [pickB_or]
      congr 1
      rw [eqI_d]
      simp [lenL]
    rw [e3]
    rfl

/-! ### The program's queue -/
def qOf (q : RQ) : Tp := ⟨q.fh, q.fb, q.fL, sumS q.fL, q.fv⟩
structure QOk (q : RQ) : Prop where
  frames : 1 ≤ q.fh ∧ q.fh ≤ 1024
  most : 1 ≤ q.fb ∧ q.fb ≤ 16777216
  len : (q.fL.length : Int) ≤ q.fh
  size : ∀ x ∈ q.fL, 0 ≤ x.fm
  sum : sumS q.fL ≤ q.fb
theorem QOk.sub {q : RQ} (h : QOk q) {l : List It} {b : Bool} (p : List It) (hl : p ++ l = q.fL) : QOk ⟨q.fh, q.fb, l, b⟩ := by
  have h1 := h.len
  have h2 := h.sum
  rw [← hl, sumS_app] at h2
  have h3 := sumS_nn (l := p) fun x hx => h.size x (hl ▸ List.mem_append_left _ hx)
  rw [← hl] at h1
  simp only [List.length_append] at h1
  exact ⟨h.frames, h.most, by simp only; omega, fun x hx => h.size x (hl ▸ List.mem_append_right _ hx), by simp only; omega⟩
theorem QOk.drop {q : RQ} (h : QOk q) : QOk (rdrop q) := h.sub (goneL q.fL) (gone_left _)
theorem QOk.small {q : RQ} (h : QOk q) : q.fL.length ≤ 1024 := by have := h.len; have := h.frames; omega

theorem shift_ok {fr mo sz : Int} {x : It} {r : List It} {b : Bool} (h0 : 0 ≤ x.fm) (h1 : x.fm ≤ 1000000000000) (h2 : 0 ≤ sz) (h3 : sz ≤ 1000000000000) :
    gM ⟨fr, mo, x :: r, sz, b⟩ = some (x, ⟨fr, mo, r, sz - x.fm, b⟩) := by
  unfold gM
  simp only
  rw [Le (inb_0 x r), Le ⟨by omega, by unfold lenL; simp; omega, Int.le_refl _⟩, nthI_0, subI_n (by omega) (by omega)]
  have := cut_tail (x :: r) 1
  simp only [List.drop_succ_cons, List.drop_zero] at this
  rw [show ((1 : Nat) : Int) = 1 from rfl] at this
  rw [this]

theorem drop_ok {q : RQ} (hq : q.fL ≠ []) (h : QOk q) : gn (qOf q) = some (goneL q.fL, qOf (rdrop q)) := by
  have hs0 : ∀ l : List It, (∀ x ∈ l, 0 ≤ x.fm) → 0 ≤ sumS l := fun l => sumS_nn
  have key : ∀ (r acc : List It), (∀ x ∈ r, 0 ≤ x.fm) → sumS r ≤ 16777216 → acc.length + r.length ≤ 2000 →
      loopF gn.loop1 (acc, ⟨q.fh, q.fb, r, sumS r, q.fv⟩) = some (.go (acc ++ r.takeWhile nk, ⟨q.fh, q.fb, r.dropWhile nk, sumS (r.dropWhile nk), q.fv⟩)) := by
    intro r
    induction r with
    | nil =>
      intro acc _ _ _
      refine Lq ?_
      unfold gn.loop1
      simp only
      rw [ltI_f (by simp), Le (show Under false true _ from fun h => by cases h)]
      simp [pickB]
    | cons x r ih =>
      intro acc hx hs hl
      simp only [List.length_cons] at hl
      have h1 := hx x (.head _)
      have h2 := hs0 r fun y hy => hx y (.tail _ hy)
      rw [sumS_cons] at hs
      by_cases hk : x.fz = true
      · refine Lq ?_
        unfold gn.loop1
        simp only
        rw [ltI_t (by simp; unfold lenL; omega), Le (Lx (inb_0 x r)), nthI_0, hk]
        simp [pickB, notB, nk, hk]
      · have hk' : x.fz = false := by simpa using hk
        have hb : gn.loop1 (acc, ⟨q.fh, q.fb, x :: r, sumS (x :: r), q.fv⟩) = some (.go (acc ++ [x], ⟨q.fh, q.fb, r, sumS r, q.fv⟩)) := by
          unfold gn.loop1
          simp only
          rw [ltI_t (by simp; unfold lenL; omega), Le (Lx (inb_0 x r)), nthI_0, hk', shift_ok h1 (by omega) (by rw [sumS_cons]; omega) (by rw [sumS_cons]; omega)]
          simp only [pickB, notB, Bool.not_false, cond_true, Ld]
          rw [Le (appB_1 _ (by omega) (by omega)), sumS_cons, show x.fm + sumS r - x.fm = sumS r by omega]
          rfl
        rw [Lw hb, ih (acc ++ [x]) (fun y hy => hx y (.tail _ hy)) (by omega) (by simp; omega)]
        simp [nk, hk']
  cases hl' : q.fL with
  | nil => exact absurd hl' hq
  | cons x r =>
    have hx := h.size
    have hs := h.sum
    have hm := h.most
    have hsm := h.small
    rw [hl'] at hx hs hsm
    rw [sumS_cons] at hs
    simp only [List.length_cons] at hsm
    have h1 := hx x (.head _)
    have h2 := hs0 r fun y hy => hx y (.tail _ hy)
    unfold gn qOf
    rw [hl', shift_ok h1 (by omega) (by rw [sumS_cons]; omega) (by rw [sumS_cons]; omega)]
    simp only [Ld]
    rw [sumS_cons, show x.fm + sumS r - x.fm = sumS r by omega, key r [x] (fun y hy => hx y (.tail _ hy)) (by omega) (by simp; omega)]
    simp only [Ld, flC_go]
    unfold rdrop
    simp only [hl', goneL, leftL]
    have e3 : pickB q.fv true (eqI (lenL (r.dropWhile nk)) 0) = (q.fv || decide (r.dropWhile nk = [])) := by
      rw [pickB_or]
      congr 1
      rw [eqI_d]
      simp [lenL]
    rw [e3]
    rfl
end Go.Proofs
end
section
namespace Go.Proofs
open Go.Ab
variable {V : Type}

theorem hasM_iff {k : Int} : ∀ {m : List (Int × V)}, hasM eqI k m = true ↔ k ∈ keysM m
  | [] => by simp [hasM, keysM]
  | e :: r => by
    have ih := hasM_iff (k := k) (m := r)
    simp only [hasM, keysM, List.map_cons, List.mem_cons]
    by_cases h : k = e.1
    · rw [eqI_t h]; simp [pickB, h]
    · rw [eqI_f h]; simp only [pickB, cond_false, h, false_or]; exact ih
theorem hasM_t {k : Int} {m : List (Int × V)} (h : k ∈ keysM m) : hasM eqI k m = true := hasM_iff.2 h
theorem hasM_f {k : Int} {m : List (Int × V)} (h : k ∉ keysM m) : hasM eqI k m = false := by
  cases hh : hasM eqI k m with
  | false => rfl
  | true => exact absurd (hasM_iff.1 hh) h

theorem getM_of {k : Int} {v z : V} : ∀ {m : List (Int × V)}, (keysM m).Nodup → (k, v) ∈ m → getM eqI k z m = v
  | e :: r, hn, h => by
    simp only [keysM, List.map_cons, List.nodup_cons] at hn
    simp only [getM]
    cases h with
    | head => rw [eqI_t rfl]; rfl
    | tail _ h =>
      have hne : k ≠ e.1 := fun q => hn.1 (List.mem_map.2 ⟨(k, v), h, q⟩)
      rw [eqI_f hne]
      simp only [Bool.false_eq_true, if_false]
      exact getM_of hn.2 h
theorem getM_no {k : Int} {z : V} : ∀ {m : List (Int × V)}, k ∉ keysM m → getM eqI k z m = z
  | [], _ => rfl
  | e :: r, h => by
    simp only [keysM, List.map_cons, List.mem_cons, not_or] at h
    simp only [getM, eqI_f h.1, Bool.false_eq_true, if_false]
    exact getM_no h.2

theorem setM_no {k : Int} {v : V} : ∀ {m : List (Int × V)}, k ∉ keysM m → setM eqI k v m = m ++ [(k, v)]
  | [], _ => rfl
  | e :: r, h => by
    simp only [keysM, List.map_cons, List.mem_cons, not_or] at h
    simp only [setM, eqI_f h.1, Bool.false_eq_true, if_false, List.cons_append]
    rw [setM_no h.2]

theorem delM_perm {k : Int} {v : V} : ∀ {m : List (Int × V)}, (keysM m).Nodup → (k, v) ∈ m → m.Perm ((k, v) :: delM eqI k m)
  | e :: r, hn, h => by
    simp only [keysM, List.map_cons, List.nodup_cons] at hn
    simp only [delM]
    cases h with
    | head => rw [eqI_t rfl]; exact List.Perm.refl _
    | tail _ h =>
      have hne : k ≠ e.1 := fun q => hn.1 (List.mem_map.2 ⟨(k, v), h, q⟩)
      rw [eqI_f hne]
      simp only [Bool.false_eq_true, if_false]
      exact ((delM_perm hn.2 h).cons e).trans (List.Perm.swap _ _ _)
theorem delM_of {k : Int} {v : V} {m r : List (Int × V)} (hn : (keysM m).Nodup) (hp : m.Perm ((k, v) :: r)) : (delM eqI k m).Perm r :=
  ((delM_perm hn (hp.mem_iff.2 (.head _))).symm.trans hp).cons_inv
theorem keysM_perm {m m' : List (Int × V)} (h : m.Perm m') : (keysM m).Perm (keysM m') := h.map _
theorem sortL_of {l l' : List Int} (h : l.Perm l') (hs : l'.Pairwise (· ≤ ·)) : sortL l = l' := by
  unfold sortL
  refine List.Perm.eq_of_pairwise (le := fun a b => a ≤ b) (fun a b _ _ h1 h2 => Int.le_antisymm h1 h2) ?_ hs ((List.mergeSort_perm l _).trans h)
  have := List.pairwise_mergeSort (le := fun x y : Int => decide (x ≤ y)) (fun a b c h1 h2 => by simp only [decide_eq_true_eq] at *; omega) (fun a b => by simp only [Bool.or_eq_true, decide_eq_true_eq]; omega) l
  exact this.imp fun h => by simpa using h
theorem KeysB_of {l : List Int} (h : ∀ x ∈ l, -9223372036854775808 ≤ x ∧ x ≤ 9223372036854775807) (hl : l.length ≤ 1000000000000) : KeysB l :=
  ⟨fun x hx => by
    obtain ⟨h1, h2⟩ := h x hx
    simp only [Lit.wf, Bool.and_eq_true, decide_eq_true_eq]
    exact ⟨h1, h2⟩, by omega⟩
end Go.Proofs
end
