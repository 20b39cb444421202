/- A queue and its reference: Put, Expire and the small ones do the same. No condition. -/
import Derived.Test.YtnoeflijefijcaaYa
namespace Go.Proofs
open Go.Ab

theorem some_u {α : Type} {b v : Bool} (x : α) : Under b v ((some x).isSome = true) := fun _ => rfl
theorem len0 {α : Type} {l : List α} (h : l ≠ []) : ltI 0 (lenL l) = true := by
  have := List.length_pos_iff.2 h
  exact ltI_t (by unfold lenL; omega)
theorem lens_gone (q : RQ) : (goneL q.fL).length + (leftL q.fL).length = q.fL.length := by
  have := congrArg List.length (gone_left q.fL); simpa using this

/-- What a queue has before: nothing is lost, nothing is new. -/
structure Cut (q q' : RQ) (l : List It) : Prop where
  ok : QOk q'
  frames : q'.fFrames = q.fFrames
  most : q'.fMost = q.fMost
  all : l ++ q'.fL = q.fL

theorem Cut.go {q q' : RQ} {l : List It} (h : Cut (rdrop q) q' l) : Cut q q' (goneL q.fL ++ l) :=
  ⟨h.ok, h.frames, h.most, by rw [List.append_assoc, h.all]; exact gone_left _⟩
theorem Cut.nil {q : RQ} (h : QOk q) : Cut q q [] := ⟨h, rfl, rfl, rfl⟩

theorem put_loop (x : It) (hx0 : 0 ≤ x.fSize) : ∀ (n : Nat) (q : RQ) (acc : List It), QOk q → x.fSize ≤ q.fMost → q.fL.length ≤ n → acc.length + q.fL.length ≤ 2000 →
    ∃ q' l, loopF (gQueueQueuePut.loop1 x) (acc, qOf q) = some (.go (acc ++ l, qOf q')) ∧ loopF (gRef18Put.loop1 x) (acc, q) = some (.go (acc ++ l, q')) ∧ Cut q q' l ∧
      (q'.fL.length : Int) < q.fFrames ∧ sumS q'.fL + x.fSize ≤ q.fMost := by
  intro n
  induction n with
  | zero =>
    intro q acc h hm hn _
    have he : q.fL = [] := List.length_eq_zero_iff.mp (by omega)
    have hf := h.frames
    refine ⟨q, [], ?_, ?_, Cut.nil h, by rw [he]; simp; omega, by rw [he]; simp; omega⟩
    · refine loop_out ?_
      unfold gQueueQueuePut.loop1 qOf
      simp only [he, sumS_nil]
      rw [leI_f (by simp [lenL]; omega), addI_n (by omega) (by have := h.most; omega), ltI_f (by omega)]
      simp [pickB]
    · refine loop_out ?_
      unfold gRef18Put.loop1
      simp only [he]
      have e := size_ok (l := []) (by simp) (by simp) (by simp)
      rw [leI_f (by simp [lenL]; omega), e, need_t (some_u _), subI_n (by omega) (by have := h.most; omega)]
      simp only [Option.getD_some, sumS_nil]
      rw [ltI_f (by omega)]
      simp [pickB]
  | succ n ih =>
    intro q acc h hm hn ha
    have hf := h.frames
    have hmo := h.most
    have hsm := h.small
    have hsu := h.sum
    have h0 := sumS_nn h.size
    have e := size_ok (l := q.fL) (by omega) h.size (by omega)
    by_cases hc : q.fFrames ≤ (q.fL.length : Int) ∨ q.fMost < sumS q.fL + x.fSize
    · have hne : q.fL ≠ [] := by
        intro he
        rw [he] at hc
        simp at hc
        omega
      have hb1 : pickB (leqI q.fFrames (lenL q.fL)) true (ltI q.fMost (addI .i64 (sumS q.fL) x.fSize)) = true := by
        rw [addI_n (by omega) (by omega), pickB_or]
        rcases hc with hc | hc
        · rw [leI_t (by unfold lenL; omega)]; rfl
        · rw [ltI_t hc]; simp
      have hb2 : pickB (leqI q.fFrames (lenL q.fL)) true (ltI (subI .i64 q.fMost x.fSize) (sumS q.fL)) = true := by
        rw [subI_n (by omega) (by omega), pickB_or]
        rcases hc with hc | hc
        · rw [leI_t (by unfold lenL; omega)]; rfl
        · rw [ltI_t (by omega)]; simp
      have hlg := lens_gone q
      have hlt := left_lt hne
      obtain ⟨q', l, h1, h2, h3, h4, h5⟩ := ih (rdrop q) (acc ++ goneL q.fL) h.drop hm (by simp only [rdrop]; omega) (by simp only [rdrop, List.length_append]; omega)
      refine ⟨q', goneL q.fL ++ l, ?_, ?_, h3.go, h4, h5⟩
      · rw [← List.append_assoc, ← h1]
        refine loop_go ?_
        unfold gQueueQueuePut.loop1
        simp only [drop_ok hne h]
        simp only [qOf, hb1, cond_true, bind_so]
        rw [need_t (appB_l _ _ (by omega) (by omega) (by omega))]
        rfl
      · rw [← List.append_assoc, ← h2]
        refine loop_go ?_
        unfold gRef18Put.loop1
        simp only [e, Option.getD_some, hb2, cond_true, rdrop_ok hne (by omega), bind_so]
        rw [need_t (some_u _), need_t (appB_l _ _ (by omega) (by omega) (by omega))]
        rfl
    · have hb1 : pickB (leqI q.fFrames (lenL q.fL)) true (ltI q.fMost (addI .i64 (sumS q.fL) x.fSize)) = false := by
        rw [addI_n (by omega) (by omega), pickB_or, leI_f (by unfold lenL; omega), ltI_f (by omega)]; rfl
      have hb2 : pickB (leqI q.fFrames (lenL q.fL)) true (ltI (subI .i64 q.fMost x.fSize) (sumS q.fL)) = false := by
        rw [subI_n (by omega) (by omega), pickB_or, leI_f (by unfold lenL; omega), ltI_f (by omega)]; rfl
      refine ⟨q, [], ?_, ?_, Cut.nil h, by omega, by omega⟩
      · refine loop_out ?_
        unfold gQueueQueuePut.loop1
        simp only [qOf, hb1, cond_false, List.append_nil]
      · refine loop_out ?_
        unfold gRef18Put.loop1
        simp only [e, Option.getD_some, hb2, cond_false, List.append_nil]
        rw [need_t (some_u _)]

/-- Put: what is dropped, is it taken, and the queue then. -/
theorem put_ok {q : RQ} (h : QOk q) (x : It) : ∃ q' l b, gQueueQueuePut (qOf q) x = some (l, b, qOf q') ∧ gRef18Put q x = some (q', l, b) ∧ QOk q' ∧
    q'.fFrames = q.fFrames ∧ q'.fMost = q.fMost ∧ l ++ q'.fL = (bif b then q.fL ++ [x] else q.fL) ∧ (b = true → 0 ≤ x.fSize ∧ x.fSize ≤ q.fMost) := by
  have hsm := h.small
  by_cases hc : pickB (pickB (ltI x.fSize 0) true (ltI q.fMost x.fSize)) true (pickB q.fBroken (notB x.fKey) false) = true
  · refine ⟨⟨q.fFrames, q.fMost, q.fL, true⟩, [], false, ?_, ?_, ⟨h.frames, h.most, h.len, h.size, h.sum⟩, rfl, rfl, rfl, fun h => by cases h⟩
    · unfold gQueueQueuePut
      simp only [qOf, hc, cond_true]
    · unfold gRef18Put
      simp only [hc, cond_true]
  · have hc' := Bool.eq_false_iff.mpr hc
    have hx0 : 0 ≤ x.fSize := by
      by_cases hx : x.fSize < 0
      · rw [pickB_or, pickB_or, ltI_t hx] at hc'; simp at hc'
      · omega
    have hxm : x.fSize ≤ q.fMost := by
      by_cases hx : q.fMost < x.fSize
      · rw [pickB_or, pickB_or, ltI_t hx] at hc'; simp at hc'
      · omega
    obtain ⟨q', l, h1, h2, h3, h4, h5⟩ := put_loop x hx0 q.fL.length q [] h hxm (Nat.le_refl _) (by simp; omega)
    simp only [List.nil_append] at h1 h2
    have hmo := h.most
    have h0 := sumS_nn h3.ok.size
    have hsm' := h3.ok.small
    by_cases hb : pickB q'.fBroken (notB x.fKey) false = true
    · refine ⟨q', l, false, ?_, ?_, h3.ok, h3.frames, h3.most, h3.all, fun h => by cases h⟩
      · unfold gQueueQueuePut
        simp only [h1, bind_so, flC_go]
        simp only [qOf, hc', cond_false, hb, cond_true]
      · unfold gRef18Put
        simp only [hc', cond_false, h2, bind_so, flC_go, hb, cond_true]
    · have hb' := Bool.eq_false_iff.mpr hb
      refine ⟨⟨q'.fFrames, q'.fMost, q'.fL ++ [x], false⟩, l, true, ?_, ?_, ⟨h3.frames ▸ h.frames, h3.most ▸ h.most, ?_, ?_, ?_⟩, h3.frames, h3.most, ?_, fun _ => ⟨hx0, hxm⟩⟩
      · unfold gQueueQueuePut
        simp only [h1, bind_so, flC_go]
        simp only [qOf, hc', cond_false, hb', cut_all, app_eq]
        rw [need_t ⟨by omega, lenL_nn _, Int.le_refl _⟩, need_t (appB_1 _ (by omega) (by omega)), addI_n (by omega) (by have := h3.most; omega), sumS_app]
        simp
      · unfold gRef18Put
        simp only [hc', cond_false, h2, bind_so, flC_go, hb', app_eq, List.nil_append]
        rw [need_t (appB_0 _ (by omega) (by omega)), need_t (appB_1 _ (by omega) (by omega))]
      · simp only [List.length_append, List.length_cons, List.length_nil, h3.frames]; omega
      · intro y hy
        rcases List.mem_append.mp hy with hy | hy
        · exact h3.ok.size y hy
        · rw [List.mem_singleton.mp hy]; exact hx0
      · simp only [sumS_app, sumS_cons, sumS_nil, h3.most]; omega
      · simp only [cond_true, ← List.append_assoc, h3.all]

/-! ### The small ones -/
theorem qnew_ok {f m : Int} (hf : 1 ≤ f ∧ f ≤ 1024) (hm : 1 ≤ m ∧ m ≤ 16777216) : gQueueNew f m = some (some (qOf ⟨f, m, [], true⟩), 0) := by
  unfold gQueueNew
  rw [ltI_f (by omega), ltI_f (by omega), ltI_f (by omega), ltI_f (by omega)]
  rfl
theorem qok_new {f m : Int} (hf : 1 ≤ f ∧ f ≤ 1024) (hm : 1 ≤ m ∧ m ≤ 16777216) : QOk ⟨f, m, [], true⟩ :=
  ⟨hf, hm, by simp; omega, fun x hx => (by cases hx), by simp; omega⟩
theorem len_ok (q : RQ) : gQueueQueueLen (qOf q) = some (lenL q.fL) := rfl
theorem broken_ok (q : RQ) : gQueueQueueBroken (qOf q) = some q.fBroken := rfl
theorem first_ok {q : RQ} {x : It} {r : List It} (h : q.fL = x :: r) : gQueueQueueFirst (qOf q) = some (x, true) := by
  unfold gQueueQueueFirst qOf
  simp only [h]
  rw [eqI_f (by unfold lenL; rw [List.length_cons]; omega), cond_false, need_t (inb_0 x r), nthI_0]
/-- The queue without its first one. -/
def rpop (q : RQ) : RQ := ⟨q.fFrames, q.fMost, q.fL.drop 1, q.fBroken⟩
theorem QOk.pop {q : RQ} (h : QOk q) : QOk (rpop q) := h.sub (q.fL.take 1) (List.take_append_drop 1 _)
theorem pop_ok {q : RQ} (hq : QOk q) {x : It} {r : List It} (h : q.fL = x :: r) : gQueueQueuePop (qOf q) = some (x, true, qOf (rpop q)) := by
  have hs := hq.size
  have hm := hq.most
  have hsu := hq.sum
  rw [h] at hs hsu
  rw [sumS_cons] at hsu
  have h1 := hs x (.head _)
  have h2 := sumS_nn (l := r) fun y hy => hs y (.tail _ hy)
  unfold gQueueQueuePop qOf rpop
  simp only [h]
  rw [eqI_f (by unfold lenL; rw [List.length_cons]; omega), cond_false, shift_ok h1 (by omega) (by rw [sumS_cons]; omega) (by rw [sumS_cons]; omega)]
  simp only [bind_so, List.drop_succ_cons, List.drop_zero]
  rw [sumS_cons, show x.fSize + sumS r - x.fSize = sumS r by omega]
end Go.Proofs
