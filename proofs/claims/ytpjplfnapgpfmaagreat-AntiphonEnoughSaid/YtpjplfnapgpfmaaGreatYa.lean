/- A queue of frames and its reference, in plain words: they are the same. No condition. -/
import Derived.Test.YtpjplfnapgpfmaaGreatM03
import Derived.Test.YtpjplfnapgpfmaaGreatM02
namespace Go.Proofs
open Go.Ab
abbrev It := Ta
abbrev RQ := Tl

/-! ### Words for lists -/
theorem loop_go {S T : Type} {body : S → Option (Fl S T)} {s s' : S} (h : body s = some (.go s')) : loopF body s = loopF body s' := by rw [loopF_eq, h]
theorem Lq {S T : Type} {body : S → Option (Fl S T)} {s : S} {t : T} (h : body s = some (.out t)) : loopF body s = some t := by rw [loopF_eq, h]
theorem lenL_n {α : Type} (l : List α) : lenL l = (l.length : Int) := rfl
theorem nthI_n {α : Type} [Inhabited α] {l : List α} {k : Nat} (h : k < l.length) : nthI l (k : Int) = l[k] := by simp [nthI, List.getD_eq_getElem?_getD, h]
theorem nthI_0 {α : Type} [Inhabited α] (x : α) (l : List α) : nthI (x :: l) 0 = x := rfl
theorem nthI_mid {α : Type} [Inhabited α] (p : List α) (x : α) (l : List α) : nthI (p ++ x :: l) (p.length : Int) = x := by simp [nthI, List.getD_eq_getElem?_getD]
theorem inb_n {α : Type} {l : List α} {k : Nat} (h : k < l.length) : InB (k : Int) (lenL l) := ⟨by omega, by unfold lenL; omega⟩
theorem inb_0 {α : Type} (x : α) (l : List α) : InB 0 (lenL (x :: l)) := ⟨by omega, by unfold lenL; rw [List.length_cons]; omega⟩
theorem inb_mid {α : Type} (p : List α) (x : α) (l : List α) : InB (p.length : Int) (lenL (p ++ x :: l)) := inb_n (by simp)
theorem cut_tail {α : Type} (l : List α) (k : Nat) : cutL l (k : Int) (lenL l) = l.drop k := by
 unfold cutL lenL
 simp only [Int.toNat_natCast]
 exact List.take_of_length_le (by simp)
theorem cut_head {α : Type} (l : List α) (k : Nat) : cutL l 0 (k : Int) = l.take k := by simp [cutL]
theorem cut_all {α : Type} (l : List α) : cutL l 0 (lenL l) = l := cut_tail l 0
theorem drop_while {α : Type} (p : α → Bool) (l : List α) : l.drop (l.takeWhile p).length = l.dropWhile p := by
 induction l with
 | nil => rfl
 | cons x l ih => cases h : p x <;> simp [h, ih]
theorem take_while {α : Type} (p : α → Bool) (l : List α) : l.take (l.takeWhile p).length = l.takeWhile p := by
 induction l with
 | nil => rfl
 | cons x l ih => cases h : p x <;> simp [h, ih]
theorem app_eq {α : Type} (a b : List α) : appL a b = a ++ b := rfl
theorem succ_n (k : Nat) (h : k ≤ 1000000000) : addI .i64 (k : Int) 1 = ((k + 1 : Nat) : Int) := by rw [addI_n (by omega) (by omega)]; omega
theorem appB_n {n m : Int} {b : Nat} (h0 : 0 ≤ n) (h1 : n ≤ 1000000000) (h2 : 0 ≤ m) (h3 : m ≤ 1000000000) (hb : b ≤ 64) : AppB n m b := by
 refine ⟨?_, by omega⟩
 have : (n + m) * b ≤ (n + m) * 64 := Int.mul_le_mul_of_nonneg_left (by omega) (by omega)
 omega
theorem appB_l {α β : Type} (l : List α) (r : List β) {b : Nat} (h1 : l.length ≤ 1000000000) (h3 : r.length ≤ 1000000000) (hb : b ≤ 64) : AppB (lenL l) (lenL r) b :=
 appB_n (lenL_nn l) (by unfold lenL; omega) (lenL_nn r) (by unfold lenL; omega) hb
theorem appB_1 {α : Type} (l : List α) {b : Nat} (h1 : l.length ≤ 1000000000) (hb : b ≤ 64) : AppB (lenL l) 1 b :=
 appB_n (lenL_nn l) (by unfold lenL; omega) (by omega) (by omega) hb
theorem appB_0 {α : Type} (l : List α) {b : Nat} (h1 : l.length ≤ 1000000000) (hb : b ≤ 64) : AppB 0 (lenL l) b :=
 appB_n (by omega) (by omega) (lenL_nn l) (by unfold lenL; omega) hb

/-! ### Sizes -/
def sumS (l : List It) : Int := (l.map (·.fj)).sum
@[simp] theorem sumS_nil : sumS [] = 0 := rfl
@[simp] theorem sumS_cons (x : It) (l : List It) : sumS (x :: l) = x.fj + sumS l := by simp [sumS]
theorem sumS_app (l r : List It) : sumS (l ++ r) = sumS l + sumS r := by simp [sumS]
theorem sumS_nn {l : List It} (h : ∀ x ∈ l, 0 ≤ x.fj) : 0 ≤ sumS l := by
 induction l with
 | nil => simp
 | cons x l ih =>
   rw [sumS_cons]
   have := h x (.head _)
   have := ih fun y hy => h y (.tail _ hy)
   omega

theorem size_ok {l : List It} (hl : l.length ≤ 1000000000) (h : ∀ x ∈ l, 0 ≤ x.fj) (hs : sumS l ≤ 1000000000000) : gao l = some (sumS l) := by
 have key : ∀ (r p : List It), p ++ r = l → loopF (gao.loop1 l) ((p.length : Int), sumS p) = some (.go (sumS l)) := by
  intro r
  induction r with
  | nil =>
    intro p hp
    rw [List.append_nil] at hp
    subst hp
    refine Lq ?_
    unfold gao.loop1
    rw [ltI_f (by unfold lenL; omega)]
    rfl
  | cons x r ih =>
    intro p hp
    have hx : ∀ y ∈ p, 0 ≤ y.fj := fun y hy => h y (hp ▸ List.mem_append_left _ hy)
    have h0 := sumS_nn hx
    have h1 : sumS l = sumS p + (x.fj + sumS r) := by rw [← hp, sumS_app, sumS_cons]
    have h2 := h x (hp ▸ List.mem_append_right _ (.head _))
    have h3 := sumS_nn (l := r) fun y hy => h y (hp ▸ List.mem_append_right _ (.tail _ hy))
    have hlen : l.length = p.length + r.length + 1 := by rw [← hp]; simp; omega
    have hb : gao.loop1 l ((p.length : Int), sumS p) = some (.go (((p ++ [x]).length : Int), sumS (p ++ [x]))) := by
     unfold gao.loop1
     simp only
     rw [ltI_t (by unfold lenL; omega), cond_true, Lf (by rw [← hp]; exact inb_mid p x r), succ_n _ (by omega)]
     have : nthI l (p.length : Int) = x := by rw [← hp]; exact nthI_mid p x r
     rw [this, addI_n (by omega) (by omega), sumS_app]
     simp
    rw [loop_go hb]
    exact ih (p ++ [x]) (by simpa using hp)
 unfold gao
 have := key l [] rfl
 simp only [List.length_nil, sumS_nil] at this
 rw [show ((0 : Nat) : Int) = 0 from rfl] at this
 rw [this]; rfl

/-! ### What is dropped with the first one -/
def nk (x : It) : Bool := !x.fy
def goneL : List It → List It
 | [] => []
 | x :: r => x :: r.takeWhile nk
def leftL : List It → List It
 | [] => []
 | _ :: r => r.dropWhile nk
theorem gone_left (l : List It) : goneL l ++ leftL l = l := by
 cases l with
 | nil => rfl
 | cons x r => simp [goneL, leftL]
theorem left_lt {l : List It} (h : l ≠ []) : (leftL l).length < l.length := by
 cases l with
 | nil => exact absurd rfl h
 | cons x r =>
   have := (List.dropWhile_sublist nk (l := r)).length_le
   simp only [leftL, List.length_cons]; omega
def rdrop (q : RQ) : RQ := ⟨q.fe, q.fb, leftL q.fL, q.fv || decide (leftL q.fL = [])⟩
theorem rdrop_ok {q : RQ} (hq : q.fL ≠ []) (hl : q.fL.length ≤ 1000000000) : gac q = some (rdrop q, goneL q.fL) := by
 have key : ∀ (r p : List It), q.fL = p ++ r → loopF (gac.loop1 q) (p.length : Int) = some (.go (((p.length + (r.takeWhile nk).length : Nat)) : Int)) := by
  intro r
  induction r with
  | nil =>
    intro p hp
    refine Lq ?_
    unfold gac.loop1
    rw [hp, List.append_nil, ltI_f (by unfold lenL; omega), Lf (show Under false true _ from fun h => by cases h)]
    simp [pickB]
  | cons x r ih =>
    intro p hp
    have hlen : q.fL.length = p.length + r.length + 1 := by rw [hp]; simp; omega
    have hn : nthI q.fL (p.length : Int) = x := by rw [hp]; exact nthI_mid p x r
    have hi : InB (p.length : Int) (lenL q.fL) := by rw [hp]; exact inb_mid p x r
    by_cases hk : x.fy = true
    ·refine Lq ?_
     unfold gac.loop1
     rw [ltI_t (by unfold lenL; omega), Lf (under_of hi), hn, hk]
     simp [pickB, notB, nk, hk]
    ·have hk' : x.fy = false := by simpa using hk
     have hb : gac.loop1 q (p.length : Int) = some (.go (((p ++ [x]).length : Int))) := by
      unfold gac.loop1
      rw [ltI_t (by unfold lenL; omega), Lf (under_of hi), hn, hk', succ_n _ (by omega)]
      simp [pickB, notB]
     rw [loop_go hb, ih (p ++ [x]) (by simpa using hp)]
     simp [nk, hk']
     omega
 cases hl' : q.fL with
 | nil => exact absurd hl' hq
 | cons x r =>
   have h1 := key r [x] (by rw [hl']; rfl)
   unfold gac
   rw [show loopF (gac.loop1 q) 1 = _ from h1]
   simp only [Ld, flC_go]
   have hle := (List.takeWhile_sublist nk (l := r)).length_le
   have hlen : q.fL.length = r.length + 1 := by rw [hl']; simp
   rw [Lf ⟨by omega, by omega, by rw [lenL_n, hlen]; simp; omega⟩, Lf ⟨by omega, by rw [lenL_n, hlen]; simp; omega, Int.le_refl _⟩, cut_tail, cut_head, hl']
   have e1 : (x :: r).drop ([x].length + (r.takeWhile nk).length) = r.dropWhile nk := by
    rw [show [x].length + (r.takeWhile nk).length = (r.takeWhile nk).length + 1 by simp; omega, List.drop_succ_cons, drop_while]
   have e2 : (x :: r).take ([x].length + (r.takeWhile nk).length) = x :: r.takeWhile nk := by
    rw [show [x].length + (r.takeWhile nk).length = (r.takeWhile nk).length + 1 by simp; omega, List.take_succ_cons, take_while]
   rw [e1, e2]
   unfold rdrop
   rw [hl']
   have e3 : pickB q.fv true (eqI (lenL (r.dropWhile nk)) 0) = (q.fv || decide (r.dropWhile nk = [])) := by
    rw [pickB_or]
    congr 1
    rw [eqI_d]
    simp [lenL]
   rw [e3]
   rfl

/-! ### The program's queue -/
def qOf (q : RQ) : Tn := ⟨q.fe, q.fb, q.fL, sumS q.fL, q.fv⟩
structure QOk (q : RQ) : Prop where
 frames : 1 ≤ q.fe ∧ q.fe ≤ 1024
 most : 1 ≤ q.fb ∧ q.fb ≤ 16777216
 len : (q.fL.length : Int) ≤ q.fe
 size : ∀ x ∈ q.fL, 0 ≤ x.fj
 sum : sumS q.fL ≤ q.fb
theorem QOk.sub {q : RQ} (h : QOk q) {l : List It} {b : Bool} (p : List It) (hl : p ++ l = q.fL) : QOk ⟨q.fe, q.fb, l, b⟩ := by
 have h1 := h.len
 have h2 := h.sum
 rw [← hl, sumS_app] at h2
 have h3 := sumS_nn (l := p) fun x hx => h.size x (hl ▸ List.mem_append_left _ hx)
 rw [← hl] at h1
 simp only [List.length_append] at h1
 exact ⟨h.frames, h.most, by simp only; omega, fun x hx => h.size x (hl ▸ List.mem_append_right _ hx), by simp only; omega⟩
theorem QOk.drop {q : RQ} (h : QOk q) : QOk (rdrop q) := h.sub (goneL q.fL) (gone_left _)
theorem QOk.small {q : RQ} (h : QOk q) : q.fL.length ≤ 1024 := by have := h.len; have := h.frames; omega

theorem shift_ok {fr mo sz : Int} {x : It} {r : List It} {b : Bool} (h0 : 0 ≤ x.fj) (h1 : x.fj ≤ 1000000000000) (h2 : 0 ≤ sz) (h3 : sz ≤ 1000000000000) :
  gL ⟨fr, mo, x :: r, sz, b⟩ = some (x, ⟨fr, mo, r, sz - x.fj, b⟩) := by
 unfold gL
 simp only
 rw [Lf (inb_0 x r), Lf ⟨by omega, by unfold lenL; simp; omega, Int.le_refl _⟩, nthI_0, subI_n (by omega) (by omega)]
 have := cut_tail (x :: r) 1
 simp only [List.drop_succ_cons, List.drop_zero] at this
 rw [show ((1 : Nat) : Int) = 1 from rfl] at this
 rw [this]

theorem drop_ok {q : RQ} (hq : q.fL ≠ []) (h : QOk q) : gq (qOf q) = some (goneL q.fL, qOf (rdrop q)) := by
 have hs0 : ∀ l : List It, (∀ x ∈ l, 0 ≤ x.fj) → 0 ≤ sumS l := fun l => sumS_nn
 have key : ∀ (r acc : List It), (∀ x ∈ r, 0 ≤ x.fj) → sumS r ≤ 16777216 → acc.length + r.length ≤ 2000 →
   loopF gq.loop1 (acc, ⟨q.fe, q.fb, r, sumS r, q.fv⟩) = some (.go (acc ++ r.takeWhile nk, ⟨q.fe, q.fb, r.dropWhile nk, sumS (r.dropWhile nk), q.fv⟩)) := by
  intro r
  induction r with
  | nil =>
    intro acc _ _ _
    refine Lq ?_
    unfold gq.loop1
    simp only
    rw [ltI_f (by simp), Lf (show Under false true _ from fun h => by cases h)]
    simp [pickB]
  | cons x r ih =>
    intro acc hx hs hl
    simp only [List.length_cons] at hl
    have h1 := hx x (.head _)
    have h2 := hs0 r fun y hy => hx y (.tail _ hy)
    rw [sumS_cons] at hs
    by_cases hk : x.fy = true
    ·refine Lq ?_
     unfold gq.loop1
     simp only
     rw [ltI_t (by simp; unfold lenL; omega), Lf (under_of (inb_0 x r)), nthI_0, hk]
     simp [pickB, notB, nk, hk]
    ·have hk' : x.fy = false := by simpa using hk
     have hb : gq.loop1 (acc, ⟨q.fe, q.fb, x :: r, sumS (x :: r), q.fv⟩) = some (.go (acc ++ [x], ⟨q.fe, q.fb, r, sumS r, q.fv⟩)) := by
      unfold gq.loop1
      simp only
      rw [ltI_t (by simp; unfold lenL; omega), Lf (under_of (inb_0 x r)), nthI_0, hk', shift_ok h1 (by omega) (by rw [sumS_cons]; omega) (by rw [sumS_cons]; omega)]
      simp only [pickB, notB, Bool.not_false, cond_true, Ld]
      rw [Lf (appB_1 _ (by omega) (by omega)), sumS_cons, show x.fj + sumS r - x.fj = sumS r by omega]
      rfl
     rw [loop_go hb, ih (acc ++ [x]) (fun y hy => hx y (.tail _ hy)) (by omega) (by simp; omega)]
     simp [nk, hk']
 cases hl' : q.fL with
 | nil => exact absurd hl' hq
 | cons x r =>
   have hx := h.size
   have hs := h.sum
   have hm := h.most
   have hsm := h.small
   rw [hl'] at hx hs hsm
   rw [sumS_cons] at hs
   simp only [List.length_cons] at hsm
   have h1 := hx x (.head _)
   have h2 := hs0 r fun y hy => hx y (.tail _ hy)
   unfold gq qOf
   rw [hl', shift_ok h1 (by omega) (by rw [sumS_cons]; omega) (by rw [sumS_cons]; omega)]
   simp only [Ld]
   rw [sumS_cons, show x.fj + sumS r - x.fj = sumS r by omega, key r [x] (fun y hy => hx y (.tail _ hy)) (by omega) (by simp; omega)]
   simp only [Ld, flC_go]
   unfold rdrop
   simp only [hl', goneL, leftL]
   have e3 : pickB q.fv true (eqI (lenL (r.dropWhile nk)) 0) = (q.fv || decide (r.dropWhile nk = [])) := by
    rw [pickB_or]
    congr 1
    rw [eqI_d]
    simp [lenL]
   rw [e3]
   rfl
end Go.Proofs
