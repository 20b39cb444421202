/- A queue of frames and its reference, in plain words: they are the same. No condition. -/
import Derived.Test.YtpjplfnapgpfmaaGreatM03
import Derived.Test.YtpjplfnapgpfmaaGreatM05
import Derived.Test.YtpjplfnapgpfmaaGreatM02
section
namespace Go.Proofs
open Go.Ab
abbrev It := Ta
abbrev RQ := Tl

/-! ### Words for lists -/
theorem loop_go {S T : Type} {body : S → Option (Fl S T)} {s s' : S} (h : body s = some (.go s')) : loopF body s = loopF body s' := by rw [loopF_eq, h]
theorem Lq {S T : Type} {body : S → Option (Fl S T)} {s : S} {t : T} (h : body s = some (.out t)) : loopF body s = some t := by rw [loopF_eq, h]
theorem lenL_n {α : Type} (l : List α) : lenL l = (l.length : Int) := rfl
theorem nthI_n {α : Type} [Inhabited α] {l : List α} {k : Nat} (h : k < l.length) : nthI l (k : Int) = l[k] := by simp [nthI, List.getD_eq_getElem?_getD, h]
theorem nthI_0 {α : Type} [Inhabited α] (x : α) (l : List α) : nthI (x :: l) 0 = x := rfl
theorem nthI_mid {α : Type} [Inhabited α] (p : List α) (x : α) (l : List α) : nthI (p ++ x :: l) (p.length : Int) = x := by simp [nthI, List.getD_eq_getElem?_getD]
theorem inb_n {α : Type} {l : List α} {k : Nat} (h : k < l.length) : InB (k : Int) (lenL l) := ⟨by omega, by unfold lenL; omega⟩
theorem inb_0 {α : Type} (x : α) (l : List α) : InB 0 (lenL (x :: l)) := ⟨by omega, by unfold lenL; rw [List.length_cons]; omega⟩
theorem inb_mid {α : Type} (p : List α) (x : α) (l : List α) : InB (p.length : Int) (lenL (p ++ x :: l)) := inb_n (by simp)
theorem cut_tail {α : Type} (l : List α) (k : Nat) : cutL l (k : Int) (lenL l) = l.drop k := by
 unfold cutL lenL
 simp only [Int.toNat_natCast]
 exact List.take_of_length_le (by simp)
theorem cut_head {α : Type} (l : List α) (k : Nat) : cutL l 0 (k : Int) = l.take k := by simp [cutL]
theorem cut_all {α : Type} (l : List α) : cutL l 0 (lenL l) = l := cut_tail l 0
theorem drop_while {α : Type} (p : α → Bool) (l : List α) : l.drop (l.takeWhile p).length = l.dropWhile p := by
 induction l with
 | nil => rfl
 | cons x l ih => cases h : p x <;> simp [h, ih]
theorem take_while {α : Type} (p : α → Bool) (l : List α) : l.take (l.takeWhile p).length = l.takeWhile p := by
 induction l with
 | nil => rfl
 | cons x l ih => cases h : p x <;> simp [h, ih]
theorem app_eq {α : Type} (a b : List α) : appL a b = a ++ b := rfl
theorem succ_n (k : Nat) (h : k ≤ 1000000000) : addI .i64 (k : Int) 1 = ((k + 1 : Nat) : Int) := by rw [addI_n (by omega) (by omega)]; omega
theorem appB_n {n m : Int} {b : Nat} (h0 : 0 ≤ n) (h1 : n ≤ 1000000000) (h2 : 0 ≤ m) (h3 : m ≤ 1000000000) (hb : b ≤ 64) : AppB n m b := by
 refine ⟨?_, by omega⟩
 have : (n + m) * b ≤ (n + m) * 64 := Int.mul_le_mul_of_nonneg_left (by omega) (by omega)
 omega
theorem appB_l {α β : Type} (l : List α) (r : List β) {b : Nat} (h1 : l.length ≤ 1000000000) (h3 : r.length ≤ 1000000000) (hb : b ≤ 64) : AppB (lenL l) (lenL r) b :=
 appB_n (lenL_nn l) (by unfold lenL; omega) (lenL_nn r) (by unfold lenL; omega) hb
theorem appB_1 {α : Type} (l : List α) {b : Nat} (h1 : l.length ≤ 1000000000) (hb : b ≤ 64) : AppB (lenL l) 1 b :=
 appB_n (lenL_nn l) (by unfold lenL; omega) (by omega) (by omega) hb
theorem appB_0 {α : Type} (l : List α) {b : Nat} (h1 : l.length ≤ 1000000000) (hb : b ≤ 64) : AppB 0 (lenL l) b :=
 appB_n (by omega) (by omega) (lenL_nn l) (by unfold lenL; omega) hb

/-! ### Sizes -/
def sumS (l : List It) : Int := (l.map (·.fj)).sum
@[simp] theorem sumS_nil : sumS [] = 0 := rfl
@[simp] theorem sumS_cons (x : It) (l : List It) : sumS (x :: l) = x.fj + sumS l := by simp [sumS]
theorem sumS_app (l r : List It) : sumS (l ++ r) = sumS l + sumS r := by simp [sumS]
theorem sumS_nn {l : List It} (h : ∀ x ∈ l, 0 ≤ x.fj) : 0 ≤ sumS l := by
 induction l with
 | nil => simp
 | cons x l ih =>
   rw [sumS_cons]
   have := h x (.head _)
   have := ih fun y hy => h y (.tail _ hy)
   omega

theorem size_ok {l : List It} (hl : l.length ≤ 1000000000) (h : ∀ x ∈ l, 0 ≤ x.fj) (hs : sumS l ≤ 1000000000000) : gam l = some (sumS l) := by
 have key : ∀ (r p : List It), p ++ r = l → loopF (gam.loop1 l) ((p.length : Int), sumS p) = some (.go (sumS l)) := by
  intro r
  induction r with
  | nil =>
    intro p hp
    rw [List.append_nil] at hp
    subst hp
    refine Lq ?_
    unfold gam.loop1
    rw [ltI_f (by unfold lenL; omega)]
    rfl
  | cons x r ih =>
    intro p hp
    have hx : ∀ y ∈ p, 0 ≤ y.fj := fun y hy => h y (hp ▸ List.mem_append_left _ hy)
    have h0 := sumS_nn hx
    have h1 : sumS l = sumS p + (x.fj + sumS r) := by rw [← hp, sumS_app, sumS_cons]
    have h2 := h x (hp ▸ List.mem_append_right _ (.head _))
    have h3 := sumS_nn (l := r) fun y hy => h y (hp ▸ List.mem_append_right _ (.tail _ hy))
    have hlen : l.length = p.length + r.length + 1 := by rw [← hp]; simp; omega
    have hb : gam.loop1 l ((p.length : Int), sumS p) = some (.go (((p ++ [x]).length : Int), sumS (p ++ [x]))) := by
     unfold gam.loop1
     simp only
     rw [ltI_t (by unfold lenL; omega), cond_true, Lf (by rw [← hp]; exact inb_mid p x r), succ_n _ (by omega)]
     have : nthI l (p.length : Int) = x := by rw [← hp]; exact nthI_mid p x r
     rw [this, addI_n (by omega) (by omega), sumS_app]
     simp
    rw [loop_go hb]
    exact ih (p ++ [x]) (by simpa using hp)
 unfold gam
 have := key l [] rfl
 simp only [List.length_nil, sumS_nil] at this
 rw [show ((0 : Nat) : Int) = 0 from rfl] at this
 rw [this]; rfl

/-! ### What is dropped with the first one -/
def nk (x : It) : Bool := !x.fy
def goneL : List It → List It
 | [] => []
 | x :: r => x :: r.takeWhile nk
def leftL : List It → List It
 | [] => []
 | _ :: r => r.dropWhile nk
theorem gone_left (l : List It) : goneL l ++ leftL l = l := by
 cases l with
 | nil => rfl
 | cons x r => simp [goneL, leftL]
theorem left_lt {l : List It} (h : l ≠ []) : (leftL l).length < l.length := by
 cases l with
 | nil => exact absurd rfl h
 | cons x r =>
   have := (List.dropWhile_sublist nk (l := r)).length_le
   simp only [leftL, List.length_cons]; omega
def rdrop (q : RQ) : RQ := ⟨q.fd, q.fb, leftL q.fL, q.fv || decide (leftL q.fL = [])⟩
theorem rdrop_ok {q : RQ} (hq : q.fL ≠ []) (hl : q.fL.length ≤ 1000000000) : gab q = some (rdrop q, goneL q.fL) := by
 have key : ∀ (r p : List It), q.fL = p ++ r → loopF (gab.loop1 q) (p.length : Int) = some (.go (((p.length + (r.takeWhile nk).length : Nat)) : Int)) := by
  intro r
  induction r with
  | nil =>
    intro p hp
    refine Lq ?_
    unfold gab.loop1
    rw [hp, List.append_nil, ltI_f (by unfold lenL; omega), Lf (show Under false true _ from fun h => by cases h)]
    simp [pickB]
  | cons x r ih =>
    intro p hp
    have hlen : q.fL.length = p.length + r.length + 1 := by rw [hp]; simp; omega
    have hn : nthI q.fL (p.length : Int) = x := by rw [hp]; exact nthI_mid p x r
    have hi : InB (p.length : Int) (lenL q.fL) := by rw [hp]; exact inb_mid p x r
    by_cases hk : x.fy = true
    ·refine Lq ?_
     unfold gab.loop1
     rw [ltI_t (by unfold lenL; omega), Lf (under_of hi), hn, hk]
     simp [pickB, notB, nk, hk]
    ·have hk' : x.fy = false := by simpa using hk
     have hb : gab.loop1 q (p.length : Int) = some (.go (((p ++ [x]).length : Int))) := by
      unfold gab.loop1
      rw [ltI_t (by unfold lenL; omega), Lf (under_of hi), hn, hk', succ_n _ (by omega)]
      simp [pickB, notB]
     rw [loop_go hb, ih (p ++ [x]) (by simpa using hp)]
     simp [nk, hk']
     omega
 cases hl' : q.fL with
 | nil => exact absurd hl' hq
 | cons x r =>
   have h1 := key r [x] (by rw [hl']; rfl)
   unfold gab
   rw [show loopF (gab.loop1 q) 1 = _ from h1]
   simp only [Ld, flC_go]
   have hle := (List.takeWhile_sublist nk (l := r)).length_le
   have hlen : q.fL.length = r.length + 1 := by rw [hl']; simp
   rw [Lf ⟨by omega, by omega, by rw [lenL_n, hlen]; simp; omega⟩, Lf ⟨by omega, by rw [lenL_n, hlen]; simp; omega, Int.le_refl _⟩, cut_tail, cut_head, hl']
   have e1 : (x :: r).drop ([x].length + (r.takeWhile nk).length) = r.dropWhile nk := by
    rw [show [x].length + (r.takeWhile nk).length = (r.takeWhile nk).length + 1 by simp; omega, List.drop_succ_cons, drop_while]
   have e2 : (x :: r).take ([x].length + (r.takeWhile nk).length) = x :: r.takeWhile nk := by
    rw [show [x].length + (r.takeWhile nk).length = (r.takeWhile nk).length + 1 by simp; omega, List.take_succ_cons, take_while]
   rw [e1, e2]
   unfold rdrop
   rw [hl']
   have e3 : pickB q.fv true (eqI (lenL (r.dropWhile nk)) 0) = (q.fv || decide (r.dropWhile nk = [])) := by
    rw [pickB_or]
    congr 1
    rw [eqI_d]
    simp [lenL]
   rw [e3]
   rfl

/-! ### The program's queue -/
def qOf (q : RQ) : Tn := ⟨q.fd, q.fb, q.fL, sumS q.fL, q.fv⟩
structure QOk (q : RQ) : Prop where
 frames : 1 ≤ q.fd ∧ q.fd ≤ 1024
 most : 1 ≤ q.fb ∧ q.fb ≤ 16777216
 len : (q.fL.length : Int) ≤ q.fd
 size : ∀ x ∈ q.fL, 0 ≤ x.fj
 sum : sumS q.fL ≤ q.fb
theorem QOk.sub {q : RQ} (h : QOk q) {l : List It} {b : Bool} (p : List It) (hl : p ++ l = q.fL) : QOk ⟨q.fd, q.fb, l, b⟩ := by
 have h1 := h.len
 have h2 := h.sum
 rw [← hl, sumS_app] at h2
 have h3 := sumS_nn (l := p) fun x hx => h.size x (hl ▸ List.mem_append_left _ hx)
 rw [← hl] at h1
 simp only [List.length_append] at h1
 exact ⟨h.frames, h.most, by simp only; omega, fun x hx => h.size x (hl ▸ List.mem_append_right _ hx), by simp only; omega⟩
theorem QOk.drop {q : RQ} (h : QOk q) : QOk (rdrop q) := h.sub (goneL q.fL) (gone_left _)
theorem QOk.small {q : RQ} (h : QOk q) : q.fL.length ≤ 1024 := by have := h.len; have := h.frames; omega

theorem shift_ok {fr mo sz : Int} {x : It} {r : List It} {b : Bool} (h0 : 0 ≤ x.fj) (h1 : x.fj ≤ 1000000000000) (h2 : 0 ≤ sz) (h3 : sz ≤ 1000000000000) :
  gK ⟨fr, mo, x :: r, sz, b⟩ = some (x, ⟨fr, mo, r, sz - x.fj, b⟩) := by
 unfold gK
 simp only
 rw [Lf (inb_0 x r), Lf ⟨by omega, by unfold lenL; simp; omega, Int.le_refl _⟩, nthI_0, subI_n (by omega) (by omega)]
 have := cut_tail (x :: r) 1
 simp only [List.drop_succ_cons, List.drop_zero] at this
 rw [show ((1 : Nat) : Int) = 1 from rfl] at this
 rw [this]

theorem drop_ok {q : RQ} (hq : q.fL ≠ []) (h : QOk q) : gp (qOf q) = some (goneL q.fL, qOf (rdrop q)) := by
 have hs0 : ∀ l : List It, (∀ x ∈ l, 0 ≤ x.fj) → 0 ≤ sumS l := fun l => sumS_nn
 have key : ∀ (r acc : List It), (∀ x ∈ r, 0 ≤ x.fj) → sumS r ≤ 16777216 → acc.length + r.length ≤ 2000 →
   loopF gp.loop1 (acc, ⟨q.fd, q.fb, r, sumS r, q.fv⟩) = some (.go (acc ++ r.takeWhile nk, ⟨q.fd, q.fb, r.dropWhile nk, sumS (r.dropWhile nk), q.fv⟩)) := by
  intro r
  induction r with
  | nil =>
    intro acc _ _ _
    refine Lq ?_
    unfold gp.loop1
    simp only
    rw [ltI_f (by simp), Lf (show Under false true _ from fun h => by cases h)]
    simp [pickB]
  | cons x r ih =>
    intro acc hx hs hl
    simp only [List.length_cons] at hl
    have h1 := hx x (.head _)
    have h2 := hs0 r fun y hy => hx y (.tail _ hy)
    rw [sumS_cons] at hs
    by_cases hk : x.fy = true
    ·refine Lq ?_
     unfold gp.loop1
     simp only
     rw [ltI_t (by simp; unfold lenL; omega), Lf (under_of (inb_0 x r)), nthI_0, hk]
     simp [pickB, notB, nk, hk]
    ·have hk' : x.fy = false := by simpa using hk
     have hb : gp.loop1 (acc, ⟨q.fd, q.fb, x :: r, sumS (x :: r), q.fv⟩) = some (.go (acc ++ [x], ⟨q.fd, q.fb, r, sumS r, q.fv⟩)) := by
      unfold gp.loop1
      simp only
      rw [ltI_t (by simp; unfold lenL; omega), Lf (under_of (inb_0 x r)), nthI_0, hk', shift_ok h1 (by omega) (by rw [sumS_cons]; omega) (by rw [sumS_cons]; omega)]
      simp only [pickB, notB, Bool.not_false, cond_true, Ld]
      rw [Lf (appB_1 _ (by omega) (by omega)), sumS_cons, show x.fj + sumS r - x.fj = sumS r by omega]
      rfl
     rw [loop_go hb, ih (acc ++ [x]) (fun y hy => hx y (.tail _ hy)) (by omega) (by simp; omega)]
     simp [nk, hk']
 cases hl' : q.fL with
 | nil => exact absurd hl' hq
 | cons x r =>
   have hx := h.size
   have hs := h.sum
   have hm := h.most
   have hsm := h.small
   rw [hl'] at hx hs hsm
   rw [sumS_cons] at hs
   simp only [List.length_cons] at hsm
   have h1 := hx x (.head _)
   have h2 := hs0 r fun y hy => hx y (.tail _ hy)
   unfold gp qOf
   rw [hl', shift_ok h1 (by omega) (by rw [sumS_cons]; omega) (by rw [sumS_cons]; omega)]
   simp only [Ld]
   rw [sumS_cons, show x.fj + sumS r - x.fj = sumS r by omega, key r [x] (fun y hy => hx y (.tail _ hy)) (by omega) (by simp; omega)]
   simp only [Ld, flC_go]
   unfold rdrop
   simp only [hl', goneL, leftL]
   have e3 : pickB q.fv true (eqI (lenL (r.dropWhile nk)) 0) = (q.fv || decide (r.dropWhile nk = [])) := by
    rw [pickB_or]
    congr 1
    rw [eqI_d]
    simp [lenL]
   rw [e3]
   rfl
end Go.Proofs
end
section
namespace Go.Proofs
open Go.Ab

theorem some_u {α : Type} {b v : Bool} (x : α) : Under b v ((some x).isSome = true) := fun _ => rfl
theorem len0 {α : Type} {l : List α} (h : l ≠ []) : ltI 0 (lenL l) = true := by
 have := List.length_pos_iff.2 h
 exact ltI_t (by unfold lenL; omega)
theorem lens_gone (q : RQ) : (goneL q.fL).length + (leftL q.fL).length = q.fL.length := by
 have := congrArg List.length (gone_left q.fL); simpa using this
structure Cut (q q' : RQ) (l : List It) : Prop where
 ok : QOk q'
 frames : q'.fd = q.fd
 most : q'.fb = q.fb
 all : l ++ q'.fL = q.fL

theorem Cut.go {q q' : RQ} {l : List It} (h : Cut (rdrop q) q' l) : Cut q q' (goneL q.fL ++ l) :=
 ⟨h.ok, h.frames, h.most, by rw [List.append_assoc, h.all]; exact gone_left _⟩
theorem Cut.nil {q : RQ} (h : QOk q) : Cut q q [] := ⟨h, rfl, rfl, rfl⟩

theorem put_loop (x : It) (hx0 : 0 ≤ x.fj) : ∀ (n : Nat) (q : RQ) (acc : List It), QOk q → x.fj ≤ q.fb → q.fL.length ≤ n → acc.length + q.fL.length ≤ 2000 →
  ∃ q' l, loopF (gu.loop1 x) (acc, qOf q) = some (.go (acc ++ l, qOf q')) ∧ loopF (gar.loop1 x) (acc, q) = some (.go (acc ++ l, q')) ∧ Cut q q' l ∧
    (q'.fL.length : Int) < q.fd ∧ sumS q'.fL + x.fj ≤ q.fb := by
 intro n
 induction n with
 | zero =>
   intro q acc h hm hn _
   have he : q.fL = [] := List.length_eq_zero_iff.mp (by omega)
   have hf := h.frames
   refine ⟨q, [], ?_, ?_, Cut.nil h, by rw [he]; simp; omega, by rw [he]; simp; omega⟩
   ·refine Lq ?_
    unfold gu.loop1 qOf
    simp only [he, sumS_nil]
    rw [leI_f (by simp [lenL]; omega), addI_n (by omega) (by have := h.most; omega), ltI_f (by omega)]
    simp [pickB]
   ·refine Lq ?_
    unfold gar.loop1
    simp only [he]
    have e := size_ok (l := []) (by simp) (by simp) (by simp)
    rw [leI_f (by simp [lenL]; omega), e, Lf (some_u _), subI_n (by omega) (by have := h.most; omega)]
    simp only [Option.getD_some, sumS_nil]
    rw [ltI_f (by omega)]
    simp [pickB]
 | succ n ih =>
   intro q acc h hm hn ha
   have hf := h.frames
   have hmo := h.most
   have hsm := h.small
   have hsu := h.sum
   have h0 := sumS_nn h.size
   have e := size_ok (l := q.fL) (by omega) h.size (by omega)
   by_cases hc : q.fd ≤ (q.fL.length : Int) ∨ q.fb < sumS q.fL + x.fj
   ·have hne : q.fL ≠ [] := by
     intro he
     rw [he] at hc
     simp at hc
     omega
    have hb1 : pickB (leqI q.fd (lenL q.fL)) true (ltI q.fb (addI .i64 (sumS q.fL) x.fj)) = true := by
     rw [addI_n (by omega) (by omega), pickB_or]
     rcases hc with hc | hc
     ·rw [leI_t (by unfold lenL; omega)]; rfl
     ·rw [ltI_t hc]; simp
    have hb2 : pickB (leqI q.fd (lenL q.fL)) true (ltI (subI .i64 q.fb x.fj) (sumS q.fL)) = true := by
     rw [subI_n (by omega) (by omega), pickB_or]
     rcases hc with hc | hc
     ·rw [leI_t (by unfold lenL; omega)]; rfl
     ·rw [ltI_t (by omega)]; simp
    have hlg := lens_gone q
    have hlt := left_lt hne
    obtain ⟨q', l, h1, h2, h3, h4, h5⟩ := ih (rdrop q) (acc ++ goneL q.fL) h.drop hm (by simp only [rdrop]; omega) (by simp only [rdrop, List.length_append]; omega)
    refine ⟨q', goneL q.fL ++ l, ?_, ?_, h3.go, h4, h5⟩
    ·rw [← List.append_assoc, ← h1]
     refine loop_go ?_
     unfold gu.loop1
     simp only [drop_ok hne h]
     simp only [qOf, hb1, cond_true, Ld]
     rw [Lf (appB_l _ _ (by omega) (by omega) (by omega))]
     rfl
    ·rw [← List.append_assoc, ← h2]
     refine loop_go ?_
     unfold gar.loop1
     simp only [e, Option.getD_some, hb2, cond_true, rdrop_ok hne (by omega), Ld]
     rw [Lf (some_u _), Lf (appB_l _ _ (by omega) (by omega) (by omega))]
     rfl
   ·have hb1 : pickB (leqI q.fd (lenL q.fL)) true (ltI q.fb (addI .i64 (sumS q.fL) x.fj)) = false := by
     rw [addI_n (by omega) (by omega), pickB_or, leI_f (by unfold lenL; omega), ltI_f (by omega)]; rfl
    have hb2 : pickB (leqI q.fd (lenL q.fL)) true (ltI (subI .i64 q.fb x.fj) (sumS q.fL)) = false := by
     rw [subI_n (by omega) (by omega), pickB_or, leI_f (by unfold lenL; omega), ltI_f (by omega)]; rfl
    refine ⟨q, [], ?_, ?_, Cut.nil h, by omega, by omega⟩
    ·refine Lq ?_
     unfold gu.loop1
     simp only [qOf, hb1, cond_false, List.append_nil]
    ·refine Lq ?_
     unfold gar.loop1
     simp only [e, Option.getD_some, hb2, cond_false, List.append_nil]
     rw [Lf (some_u _)]
theorem put_ok {q : RQ} (h : QOk q) (x : It) : ∃ q' l b, gu (qOf q) x = some (l, b, qOf q') ∧ gar q x = some (q', l, b) ∧ QOk q' ∧
  q'.fd = q.fd ∧ q'.fb = q.fb ∧ l ++ q'.fL = (bif b then q.fL ++ [x] else q.fL) ∧ (b = true → 0 ≤ x.fj ∧ x.fj ≤ q.fb) := by
 have hsm := h.small
 by_cases hc : pickB (pickB (ltI x.fj 0) true (ltI q.fb x.fj)) true (pickB q.fv (notB x.fy) false) = true
 ·refine ⟨⟨q.fd, q.fb, q.fL, true⟩, [], false, ?_, ?_, ⟨h.frames, h.most, h.len, h.size, h.sum⟩, rfl, rfl, rfl, fun h => by cases h⟩
  ·unfold gu
   simp only [qOf, hc, cond_true]
  ·unfold gar
   simp only [hc, cond_true]
 ·have hc' := Bool.eq_false_iff.mpr hc
  have hx0 : 0 ≤ x.fj := by
   by_cases hx : x.fj < 0
   ·rw [pickB_or, pickB_or, ltI_t hx] at hc'; simp at hc'
   ·omega
  have hxm : x.fj ≤ q.fb := by
   by_cases hx : q.fb < x.fj
   ·rw [pickB_or, pickB_or, ltI_t hx] at hc'; simp at hc'
   ·omega
  obtain ⟨q', l, h1, h2, h3, h4, h5⟩ := put_loop x hx0 q.fL.length q [] h hxm (Nat.le_refl _) (by simp; omega)
  simp only [List.nil_append] at h1 h2
  have hmo := h.most
  have h0 := sumS_nn h3.ok.size
  have hsm' := h3.ok.small
  by_cases hb : pickB q'.fv (notB x.fy) false = true
  ·refine ⟨q', l, false, ?_, ?_, h3.ok, h3.frames, h3.most, h3.all, fun h => by cases h⟩
   ·unfold gu
    simp only [h1, Ld, flC_go]
    simp only [qOf, hc', cond_false, hb, cond_true]
   ·unfold gar
    simp only [hc', cond_false, h2, Ld, flC_go, hb, cond_true]
  ·have hb' := Bool.eq_false_iff.mpr hb
   refine ⟨⟨q'.fd, q'.fb, q'.fL ++ [x], false⟩, l, true, ?_, ?_, ⟨h3.frames ▸ h.frames, h3.most ▸ h.most, ?_, ?_, ?_⟩, h3.frames, h3.most, ?_, fun _ => ⟨hx0, hxm⟩⟩
   ·unfold gu
    simp only [h1, Ld, flC_go]
    simp only [qOf, hc', cond_false, hb', cut_all, app_eq]
    rw [Lf ⟨by omega, lenL_nn _, Int.le_refl _⟩, Lf (appB_1 _ (by omega) (by omega)), addI_n (by omega) (by have := h3.most; omega), sumS_app]
    simp
   ·unfold gar
    simp only [hc', cond_false, h2, Ld, flC_go, hb', app_eq, List.nil_append]
    rw [Lf (appB_0 _ (by omega) (by omega)), Lf (appB_1 _ (by omega) (by omega))]
   ·simp only [List.length_append, List.length_cons, List.length_nil, h3.frames]; omega
   ·intro y hy
    rcases List.mem_append.mp hy with hy | hy
    ·exact h3.ok.size y hy
    ·rw [List.mem_singleton.mp hy]; exact hx0
   ·simp only [sumS_app, sumS_cons, sumS_nil, h3.most]; omega
   ·simp only [cond_true, ← List.append_assoc, h3.all]
theorem expire_loop (now age : Int) : ∀ (n : Nat) (q : RQ) (acc : List It), QOk q → q.fL.length ≤ n → acc.length + q.fL.length ≤ 2000 →
  ∃ q' l, loopF (gl.loop1 now age) (acc, qOf q) = some (.go (acc ++ l, qOf q')) ∧ loopF (gU.loop1 now age) (acc, q) = some (.go (acc ++ l, q')) ∧ Cut q q' l ∧
    (∀ x r, q'.fL = x :: r → ¬ age ≤ subI .i64 now x.fw) := by
 intro n
 induction n with
 | zero =>
   intro q acc h hn _
   have he : q.fL = [] := List.length_eq_zero_iff.mp (by omega)
   refine ⟨q, [], ?_, ?_, Cut.nil h, fun x r hx => by rw [he] at hx; cases hx⟩
   ·refine Lq ?_
    unfold gl.loop1 qOf
    simp only [he]
    rw [ltI_f (by simp [lenL]), Lf (show Under false true _ from fun h => by cases h)]
    simp [pickB]
   ·refine Lq ?_
    unfold gU.loop1
    simp only [he]
    rw [ltI_f (by simp [lenL]), Lf (show Under false true _ from fun h => by cases h)]
    simp [pickB]
 | succ n ih =>
   intro q acc h hn ha
   have hsm := h.small
   cases hl : q.fL with
   | nil =>
     obtain ⟨q', l, h1, h2, h3, h4⟩ := ih q acc h (by rw [hl]; simp) ha
     exact ⟨q', l, h1, h2, h3, h4⟩
   | cons x r =>
     have hne : q.fL ≠ [] := by rw [hl]; exact List.cons_ne_nil _ _
     by_cases hc : age ≤ subI .i64 now x.fw
     ·have hlg := lens_gone q
      have hlt := left_lt hne
      obtain ⟨q', l, h1, h2, h3, h4⟩ := ih (rdrop q) (acc ++ goneL q.fL) h.drop (by simp only [rdrop]; omega) (by simp only [rdrop, List.length_append]; omega)
      refine ⟨q', goneL q.fL ++ l, ?_, ?_, h3.go, h4⟩
      ·rw [← List.append_assoc, ← h1]
       refine loop_go ?_
       unfold gl.loop1
       simp only [drop_ok hne h, Ld]
       simp only [qOf]
       rw [len0 hne, hl, Lf (under_of (inb_0 x r)), nthI_0, leI_t hc, ← hl]
       simp only [pickB, cond_true]
       rw [Lf (appB_l _ _ (by omega) (by omega) (by omega))]
       rfl
      ·rw [← List.append_assoc, ← h2]
       refine loop_go ?_
       unfold gU.loop1
       simp only [rdrop_ok hne (by omega), Ld]
       rw [len0 hne, hl, Lf (under_of (inb_0 x r)), nthI_0, leI_t hc, ← hl]
       simp only [pickB, cond_true]
       rw [Lf (appB_l _ _ (by omega) (by omega) (by omega))]
       rfl
     ·refine ⟨q, [], ?_, ?_, Cut.nil h, fun y s hy => by rw [hl] at hy; cases hy; exact hc⟩
      ·refine Lq ?_
       unfold gl.loop1
       simp only [qOf]
       rw [len0 hne, hl, Lf (under_of (inb_0 x r)), nthI_0, leI_f hc]
       simp [pickB]
      ·refine Lq ?_
       unfold gU.loop1
       simp only []
       rw [len0 hne, hl, Lf (under_of (inb_0 x r)), nthI_0, leI_f hc]
       simp [pickB]

theorem expire_ok {q : RQ} (h : QOk q) (now age : Int) : ∃ q' l, gl (qOf q) now age = some (l, qOf q') ∧ gU q now age = some (q', l) ∧ Cut q q' l ∧
  (∀ x r, q'.fL = x :: r → ¬ age ≤ subI .i64 now x.fw) := by
 have hsm := h.small
 obtain ⟨q', l, h1, h2, h3, h4⟩ := expire_loop now age q.fL.length q [] h (Nat.le_refl _) (by simp; omega)
 simp only [List.nil_append] at h1 h2
 refine ⟨q', l, ?_, ?_, h3, h4⟩
 ·unfold gl
  rw [h1]; rfl
 ·unfold gU
  rw [h2]; rfl

/-! ### The small ones -/
theorem qnew_ok {f m : Int} (hf : 1 ≤ f ∧ f ≤ 1024) (hm : 1 ≤ m ∧ m ≤ 16777216) : gaO f m = some (some (qOf ⟨f, m, [], true⟩), 0) := by
 unfold gaO
 rw [ltI_f (by omega), ltI_f (by omega), ltI_f (by omega), ltI_f (by omega)]
 rfl
theorem qok_new {f m : Int} (hf : 1 ≤ f ∧ f ≤ 1024) (hm : 1 ≤ m ∧ m ≤ 16777216) : QOk ⟨f, m, [], true⟩ :=
 ⟨hf, hm, by simp; omega, fun x hx => (by cases hx), by simp; omega⟩
theorem len_ok (q : RQ) : gal (qOf q) = some (lenL q.fL) := rfl
theorem break_ok (q : RQ) : gW (qOf q) = some (q.fL, qOf ⟨q.fd, q.fb, [], true⟩) := rfl
theorem first_ok {q : RQ} {x : It} {r : List It} (h : q.fL = x :: r) : gD (qOf q) = some (x, true) := by
 unfold gD qOf
 simp only [h]
 rw [eqI_f (by unfold lenL; rw [List.length_cons]; omega), cond_false, Lf (inb_0 x r), nthI_0]
def rpop (q : RQ) : RQ := ⟨q.fd, q.fb, q.fL.drop 1, q.fv⟩
theorem QOk.pop {q : RQ} (h : QOk q) : QOk (rpop q) := h.sub (q.fL.take 1) (List.take_append_drop 1 _)
theorem pop_ok {q : RQ} (hq : QOk q) {x : It} {r : List It} (h : q.fL = x :: r) : gau (qOf q) = some (x, true, qOf (rpop q)) := by
 have hs := hq.size
 have hm := hq.most
 have hsu := hq.sum
 rw [h] at hs hsu
 rw [sumS_cons] at hsu
 have h1 := hs x (.head _)
 have h2 := sumS_nn (l := r) fun y hy => hs y (.tail _ hy)
 unfold gau qOf rpop
 simp only [h]
 rw [eqI_f (by unfold lenL; rw [List.length_cons]; omega), cond_false, shift_ok h1 (by omega) (by rw [sumS_cons]; omega) (by rw [sumS_cons]; omega)]
 simp only [Ld, List.drop_succ_cons, List.drop_zero]
 rw [sumS_cons, show x.fj + sumS r - x.fj = sumS r by omega]
end Go.Proofs
end
