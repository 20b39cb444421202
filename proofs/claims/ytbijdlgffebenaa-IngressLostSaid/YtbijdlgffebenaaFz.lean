/- The law FramePlays holds of its plain function. No condition. -/
import Derived.Test.YtbijdlgffebenaaQ05
import Derived.Test.YtbijdlgffebenaaQ04
import Derived.Test.YtbijdlgffebenaaQ03
namespace Go.Proofs
open Go.Ab
abbrev Un := Tc

def folB (o : List Un) (u : Un) : Bool := bif eqI (lenL o) 0 then false else pickB (pickB (eqI u.fAt (addI .i64 ((nthI o (subI .i64 (lenL o) 1)).fAt) 1)) (eqI u.fQ ((nthI o (subI .i64 (lenL o) 1)).fQ)) false) (notB u.fy) false
structure Put3 where
  out : List Un
  ok : Bool
  o : List Un
  w : Int
  l : Int
def putC (c : Tp) (o : List Un) (w l : Int) (u : Un) : Put3 :=
  if c.fj < lenL (o ++ [u]) ∨ c.fv < sizeN (o ++ [u]) then ⟨[], false, [], w, addI .i64 l (lenL (o ++ [u]))⟩
  else if c.fu = true ∧ u.fA = false then ⟨[], false, o ++ [u], w, l⟩
  else ⟨o ++ [u], true, [], addI .i64 w 1, l⟩
def putP (c : Tp) (o : List Un) (w l : Int) (u : Un) : Put3 :=
  if folB o u = true then putC c o w l u
  else if c.fu = true ∧ u.fy = false then ⟨[], false, [], w, addI .i64 (addI .i64 l (lenL o)) 1⟩
  else putC c [] w (addI .i64 l (lenL o)) u
structure Small (c : Tp) (o : List Un) : Prop where
  u0 : 1 ≤ c.fj
  u1 : c.fj ≤ 8
  len : lenL o ≤ c.fj
  tx : ∀ u ∈ o, lenS u.fT ≤ 40
theorem sizeN_small : ∀ (o : List Un), (∀ u ∈ o, lenS u.fT ≤ 40) → sizeN o ≤ 40 * lenL o
  | [], _ => by simp [sizeN]
  | u :: r, h => by
    have h1 := sizeN_small r fun v hv => h v (by simp [hv])
    have h2 := h u (by simp)
    rw [lenL_cons]; unfold sizeN; omega
theorem small_app {c : Tp} {o : List Un} {u : Un} (h : Small c o) (hu : lenS u.fT ≤ 40) : sizeN (o ++ [u]) ≤ 400 ∧ lenL (o ++ [u]) ≤ 9 ∧ ∀ v ∈ o ++ [u], lenS v.fT ≤ 40 := by
  have a : ∀ v ∈ o ++ [u], lenS v.fT ≤ 40 := fun v hv => by
    rcases List.mem_append.1 hv with hv | hv
    · exact h.tx v hv
    · simp at hv; subst hv; exact hu
  have b := sizeN_small _ a
  have l1 : lenL (o ++ [u]) = lenL o + 1 := by unfold lenL; simp
  have := h.len; have := h.u1
  exact ⟨by omega, by omega, a⟩
theorem app_eq (o : List Un) (u : Un) : appL o [u] = o ++ [u] := rfl

theorem put_core {c : Tp} {o : List Un} {u : Un} (h : Small c o) (hu : lenS u.fT ≤ 40) (w l : Int) :
    (need (AppB 0 (lenL o) 48) <|
    need (AppB (lenL o) 1 48) <|
    ((gC (Th.mk c (Tl.mk (appL o [u])) w l))).bind fun r3 =>
    need (Under (ltI c.fj r3) false ((gn (Tl.mk (appL o [u]))).isSome = true)) <|
    bif (pickB (ltI c.fj r3) true (ltI c.fv ((gn (Tl.mk (appL o [u]))).getD dflt))) then (
      ((gH (Th.mk c (Tl.mk (appL o [u])) w l))).bind fun r4 =>
      some ((Tl.mk []), false, r4)
    ) else (
      bif (pickB c.fu (notB u.fA) false) then (
        some ((Tl.mk []), false, (Th.mk c (Tl.mk (appL o [u])) w l))
      ) else (
        some ((Tl.mk (appL o [u])), true, (Th.mk c (Tl.mk []) (addI .i64 w 1) l))
      )
    )) = some ((⟨(putC c o w l u).out⟩ : Tl), (putC c o w l u).ok, (.mk c ⟨(putC c o w l u).o⟩ (putC c o w l u).w (putC c o w l u).l : Th)) := by
  obtain ⟨s1, s2, _⟩ := small_app h hu
  have := h.len; have := h.u1; have := h.u0
  have hl := lenL_nn o
  rw [Le (show AppB 0 (lenL o) 48 by unfold AppB; omega), Le (show AppB (lenL o) 1 48 by unfold AppB; omega), app_eq, size_eq _ (by omega) (by omega)]
  simp only [open_eq, Lb, Option.isSome_some, under_true, need_true, getD_so, pickB_or, pickB_and, notB_d]
  unfold putC gH
  by_cases hc : c.fj < lenL (o ++ [u]) ∨ c.fv < sizeN (o ++ [u])
  · rw [if_pos hc]
    have e : (ltI c.fj (lenL (o ++ [u])) || ltI c.fv (sizeN (o ++ [u]))) = true := by simp [ltI_d]; exact hc
    rw [e]; rfl
  · rw [if_neg hc]
    have e : (ltI c.fj (lenL (o ++ [u])) || ltI c.fv (sizeN (o ++ [u]))) = false := by simp [ltI_d]; omega
    rw [e, cond_false]
    by_cases hv : c.fu = true ∧ u.fA = false
    · rw [if_pos hv, hv.1, hv.2]; rfl
    · rw [if_neg hv]
      have e2 : (c.fu && !u.fA) = false := by
        cases h1 : c.fu <;> cases h2 : u.fA <;> simp_all
      rw [e2]; rfl

theorem fol_eq (c : Tp) (o : List Un) (w l : Int) (u : Un) (hl : lenL o ≤ 9) : gF (.mk c ⟨o⟩ w l) u = some (folB o u) := by
  unfold gF folB
  rw [open_eq, Lb]
  have := lenL_nn o
  by_cases h : lenL o = 0
  · rw [eqI_t h]; rfl
  · rw [eqI_f h, cond_false, cond_false]
    dsimp only
    rw [Le (show InB (subI .i64 (lenL o) 1) (lenL o) by rw [subI_n (by omega) (by omega)]; exact ⟨by omega, by omega⟩)]
theorem put_eq {c : Tp} {o : List Un} {u : Un} (h : Small c o) (hu : lenS u.fT ≤ 40) (w l : Int) :
    gV (.mk c ⟨o⟩ w l) u = some ((⟨(putP c o w l u).out⟩ : Tl), (putP c o w l u).ok, (.mk c ⟨(putP c o w l u).o⟩ (putP c o w l u).w (putP c o w l u).l : Th)) := by
  have hl := h.len
  have hu1 := h.u1
  have h0 : Small c [] := ⟨h.u0, h.u1, by have := h.u0; simp; omega, fun _ h => by cases h⟩
  unfold gV gH
  rw [fol_eq c o w l u (by omega), Lb]
  unfold putP
  cases hf : folB o u with
  | true =>
    rw [notB_f', cond_false, Lb, flC_go, if_pos rfl]
    exact put_core h hu w l
  | false =>
    rw [notB_t', cond_true, open_eq, Lb, Lb, if_neg (by decide)]
    dsimp only
    by_cases hv : c.fu = true ∧ u.fy = false
    · rw [if_pos hv, hv.1, hv.2]; rfl
    · have e2 : pickB c.fu (notB u.fy) false = false := by
        rw [pickB_and, notB_d]
        cases h1 : c.fu <;> cases h2 : u.fy <;> simp_all
      rw [if_neg hv, e2, cond_false, Lb, flC_go]
      exact put_core h0 hu w _

theorem rsize_eq (us : List Un) : gaz us = gn ⟨us⟩ := rfl
theorem rput_core {c : Tp} {o : List Un} {u : Un} (h : Small c o) (hu : lenS u.fT ≤ 40) (w l : Int) :
    (need (AppB 0 (lenL o) 48) <|
        need (AppB (lenL o) 1 48) <|
        need (Under (ltI c.fj ((lenL o) + 1)) false ((gaz (appL (appL [] o) [u])).isSome = true)) <|
        bif (pickB (ltI c.fj ((lenL o) + 1)) true (ltI c.fv ((gaz (appL (appL [] o) [u])).getD dflt))) then (
          ((gaC (Tq.mk c.fu c.fv c.fj c.fq (appL (appL [] o) [u]) w l))).bind fun r2 =>
          some (r2, [])
        ) else (
          bif (pickB c.fu (notB u.fA) false) then (
            some ((Tq.mk c.fu c.fv c.fj c.fq (appL (appL [] o) [u]) w l), [])
          ) else (
            some ((Tq.mk c.fu c.fv c.fj c.fq [] (addI .i64 w 1) l), (appL (appL [] o) [u]))
          )
        )) = some ((.mk c.fu c.fv c.fj c.fq (putC c o w l u).o (putC c o w l u).w (putC c o w l u).l : Tq), (putC c o w l u).out) := by
  obtain ⟨s1, s2, _⟩ := small_app h hu
  have := h.len; have := h.u1; have := h.u0
  have hl := lenL_nn o
  have ea : appL (appL [] o) [u] = o ++ [u] := rfl
  have l1 : lenL o + 1 = lenL (o ++ [u]) := by unfold lenL; simp
  rw [Le (show AppB 0 (lenL o) 48 by unfold AppB; omega), Le (show AppB (lenL o) 1 48 by unfold AppB; omega), ea, rsize_eq, size_eq _ (by omega) (by omega), l1]
  simp only [Option.isSome_some, under_true, need_true, getD_so, pickB_or, pickB_and, notB_d]
  unfold putC gaC
  by_cases hc : c.fj < lenL (o ++ [u]) ∨ c.fv < sizeN (o ++ [u])
  · rw [if_pos hc]
    have e : (ltI c.fj (lenL (o ++ [u])) || ltI c.fv (sizeN (o ++ [u]))) = true := by simp [ltI_d]; exact hc
    rw [e]; rfl
  · rw [if_neg hc]
    have e : (ltI c.fj (lenL (o ++ [u])) || ltI c.fv (sizeN (o ++ [u]))) = false := by simp [ltI_d]; omega
    rw [e, cond_false]
    by_cases hv : c.fu = true ∧ u.fA = false
    · rw [if_pos hv, hv.1, hv.2]; rfl
    · rw [if_neg hv]
      have e2 : (c.fu && !u.fA) = false := by
        cases h1 : c.fu <;> cases h2 : u.fA <;> simp_all
      rw [e2]; rfl
theorem rput_eq {c : Tp} {o : List Un} {u : Un} (h : Small c o) (hu : lenS u.fT ≤ 40) (w l : Int) :
    gaO (.mk c.fu c.fv c.fj c.fq o w l) u = some ((.mk c.fu c.fv c.fj c.fq (putP c o w l u).o (putP c o w l u).w (putP c o w l u).l : Tq), (putP c o w l u).out) := by
  have hl := h.len
  have hu1 := h.u1
  have hn := lenL_nn o
  have h0 : Small c [] := ⟨h.u0, h.u1, by have := h.u0; simp; omega, fun _ h => by cases h⟩
  have key : (bif (ltI 0 (lenL o)) then (
      need (InB (subI .i64 (lenL o) 1) (lenL o)) <|
      some (.go (pickB (pickB (eqI u.fAt (addI .i64 ((nthI o (subI .i64 (lenL o) 1)).fAt) 1)) (eqI u.fQ ((nthI o (subI .i64 (lenL o) 1)).fQ)) false) (notB u.fy) false))
    ) else (
      some (.go false)
    ) : Option (Fl Bool (Tq × List Tc))) = some (.go (folB o u)) := by
    unfold folB
    by_cases h : lenL o = 0
    · rw [eqI_t h, ltI_f (by omega)]; rfl
    · rw [eqI_f h, ltI_t (show 0 < lenL o by omega), cond_true, cond_false, Le (show InB (subI .i64 (lenL o) 1) (lenL o) by rw [subI_n (by omega) (by omega)]; exact ⟨by omega, by omega⟩)]
  unfold gaO
  dsimp only
  rw [key, Lb, flC_go]
  unfold putP
  cases hf : folB o u with
  | true =>
    have e : pickB (pickB (notB true) c.fu false) (notB u.fy) false = false := by cases c.fu <;> cases u.fy <;> rfl
    rw [notB_f', cond_false, Lb, flC_go, if_pos rfl]
    dsimp only
    rw [show pickB (pickB false c.fu false) (notB u.fy) false = false from e, cond_false]
    exact rput_core h hu w l
  | false =>
    rw [notB_t', cond_true, if_neg (by decide)]
    unfold gaC
    rw [Lb, Lb, flC_go]
    dsimp only
    by_cases hv : c.fu = true ∧ u.fy = false
    · rw [if_pos hv, hv.1, hv.2]; rfl
    · have e2 : pickB (pickB true c.fu false) (notB u.fy) false = false := by
        cases h1 : c.fu <;> cases h2 : u.fy <;> simp_all <;> rfl
      rw [if_neg hv, e2, cond_false]
      exact rput_core h0 hu w _

/-! What is held: a chain -/
def ChainP (video : Bool) (o : List Un) : Prop := ∀ i, 0 ≤ i → i < lenL o → (nthI o i).fQ = (nthI o 0).fQ ∧ (nthI o i).fAt = addI .i64 (nthI o 0).fAt i ∧ (video = true → (nthI o i).fy = decide (i = 0))
structure Held (c : Tp) (o : List Un) : Prop where
  sm : Small c o
  ch : ChainP c.fu o
  nm : c.fu = true → ∀ u ∈ o, u.fA = false
  ns : c.fu = false → o = []
theorem nth_app_lt (o : List Un) (u : Un) {i : Int} (h0 : 0 ≤ i) (h : i < lenL o) : nthI (o ++ [u]) i = nthI o i := by
  unfold nthI lenL at *
  rw [List.getD_eq_getElem?_getD, List.getD_eq_getElem?_getD, List.getElem?_append_left (by omega)]
theorem nth_app_eq (o : List Un) (u : Un) : nthI (o ++ [u]) (lenL o) = u := by
  unfold nthI lenL
  rw [List.getD_eq_getElem?_getD]
  simp
theorem add_add (a k : Int) : addI .i64 (addI .i64 a k) 1 = addI .i64 a (k + 1) := by
  unfold addI; rw [IntKind.wrap_i64, IntKind.wrap_i64, IntKind.wrap_i64]; omega
theorem chain_app {video : Bool} {o : List Un} {u : Un} (h : ChainP video o) (hl : lenL o ≤ 9) (hf : folB o u = true) : ChainP video (o ++ [u]) := by
  have l1 : lenL (o ++ [u]) = lenL o + 1 := by unfold lenL; simp
  have hn := lenL_nn o
  unfold folB at hf
  by_cases hz : lenL o = 0
  · rw [eqI_t hz] at hf; cases hf
  rw [eqI_f hz, cond_false, pickB_and, pickB_and, notB_d, subI_n (by omega) (by omega), eqI_d, eqI_d] at hf
  simp only [Bool.and_eq_true, decide_eq_true_eq, Bool.not_eq_true'] at hf
  obtain ⟨⟨f1, f2⟩, f3⟩ := hf
  obtain ⟨g1, g2, g3⟩ := h (lenL o - 1) (by omega) (by omega)
  intro i i0 i1
  have e0 : nthI (o ++ [u]) 0 = nthI o 0 := nth_app_lt o u (by omega) (by omega)
  rw [e0]
  by_cases hi : i < lenL o
  · rw [nth_app_lt o u i0 hi]; exact h i i0 hi
  · have : i = lenL o := by omega
    subst this
    rw [nth_app_eq]
    refine ⟨by rw [f2, g1], ?_, fun hv => ?_⟩
    · rw [f1, g2, add_add]; congr 1; omega
    · rw [f3]; simp; omega
theorem chain_one {video : Bool} {u : Un} (ha : u.fAt = addI .i64 u.fAt 0) (hs : video = true → u.fy = true) : ChainP video ([] ++ [u]) := by
  intro i i0 i1
  have : i = 0 := by simp at i1; omega
  subst this
  have e : nthI ([] ++ [u]) 0 = u := rfl
  rw [e]
  exact ⟨rfl, ha, fun hv => by rw [hs hv]; rfl⟩
theorem held_nil {c : Tp} (h0 : 1 ≤ c.fj) (h1 : c.fj ≤ 8) : Held c [] :=
  ⟨⟨h0, h1, by simp; omega, (fun _ h => by cases h)⟩, (fun i a b => by simp at b; omega), (fun _ _ h => by cases h), fun _ => rfl⟩
structure FrameOk (video : Bool) (o : List Un) : Prop where
  ch : ChainP video o
  ma : video = true → ∀ i, 0 ≤ i → i < lenL o → (nthI o i).fA = decide (i = lenL o - 1)
  one : video = false → lenL o ≤ 1
  len : lenL o ≤ 9
theorem putC_ok {c : Tp} {o : List Un} {u : Un} (h : Small c o) (hu : lenS u.fT ≤ 40) (w l : Int) (hc : ChainP c.fu (o ++ [u])) (hm : c.fu = true → ∀ v ∈ o, v.fA = false) (hs : c.fu = false → o = []) :
    Held c (putC c o w l u).o ∧ FrameOk c.fu (putC c o w l u).out ∧ (putC c o w l u).ok = ltI 0 (lenL (putC c o w l u).out) := by
  have hn := held_nil h.u0 h.u1
  have en : FrameOk c.fu [] := ⟨hn.ch, fun _ i a b => by simp at b; omega, fun _ => by simp, by simp⟩
  obtain ⟨s1, s2, s3⟩ := small_app h hu
  have l1 : lenL (o ++ [u]) = lenL o + 1 := by unfold lenL; simp
  have hn0 := lenL_nn o
  unfold putC
  split
  · exact ⟨hn, en, rfl⟩
  · rename_i hg
    split
    · rename_i hv
      refine ⟨⟨⟨h.u0, h.u1, by dsimp only; omega, s3⟩, hc, fun _ v hv2 => ?_, fun q => by rw [hv.1] at q; cases q⟩, en, rfl⟩
      rcases List.mem_append.1 hv2 with hv2 | hv2
      · exact hm hv.1 v hv2
      · simp at hv2; subst hv2; exact hv.2
    · rename_i hv
      refine ⟨hn, ⟨hc, fun q i a b => ?_, fun q => by rw [hs q]; simp, s2⟩, ?_⟩
      · dsimp only at b ⊢
        by_cases hi : i < lenL o
        · rw [nth_app_lt o u a hi, hm q _ (by
            unfold nthI; unfold lenL at hi
            rw [List.getD_eq_getElem?_getD, List.getElem?_eq_getElem (by omega)]
            exact List.getElem_mem _), l1]
          simp; omega
        · have : i = lenL o := by omega
          subst this
          rw [nth_app_eq, l1]
          have : u.fA = true := by
            cases hmk : u.fA
            · exact absurd ⟨q, hmk⟩ hv
            · rfl
          rw [this]; simp
      · show true = ltI 0 (lenL (o ++ [u]))
        rw [ltI_d]; simp; omega
theorem putP_ok {c : Tp} {o : List Un} {u : Un} (h : Held c o) (hu : lenS u.fT ≤ 40) (ha : u.fAt = addI .i64 u.fAt 0) (w l : Int) :
    Held c (putP c o w l u).o ∧ FrameOk c.fu (putP c o w l u).out ∧ (putP c o w l u).ok = ltI 0 (lenL (putP c o w l u).out) := by
  have hn := held_nil h.sm.u0 h.sm.u1
  have en : FrameOk c.fu [] := ⟨hn.ch, fun _ i a b => by simp at b; omega, fun _ => by simp, by simp⟩
  have hl := h.sm.len
  have hu1 := h.sm.u1
  unfold putP
  split
  · rename_i hf
    exact putC_ok h.sm hu w l (chain_app h.ch (by omega) hf) h.nm h.ns
  · split
    · exact ⟨hn, en, rfl⟩
    · rename_i hv
      exact putC_ok hn.sm hu w _ (chain_one ha fun q => by
        cases hs : u.fy
        · exact absurd ⟨q, hs⟩ hv
        · rfl) (fun _ _ h => by cases h) (fun _ => rfl)

/-! The parts of the law -/
theorem cut_ok (s : ByteArray) : ∃ t, gam s 40 = some t ∧ lenS t ≤ 40 := by
  unfold gam
  by_cases h : 40 < lenS s
  · rw [ltI_d, decide_eq_true h, cond_true, Le (show CutB 0 40 (lenS s) from ⟨by omega, by omega, by omega⟩)]
    refine ⟨_, rfl, ?_⟩
    unfold lenS cutS
    rw [ByteArray.size_extract]
    omega
  · rw [ltI_d, decide_eq_false h, cond_false]
    exact ⟨s, rfl, by omega⟩
def refOf (c : Tp) (o : List Un) (w l : Int) : Tq := .mk c.fu c.fv c.fj c.fq o w l
theorem tick_both (c : Tp) (o : List Un) (w l now : Int) : ∃ o' l' b, gP (.mk c ⟨o⟩ w l) now = some (b, .mk c ⟨o'⟩ w l') ∧ gaI (refOf c o w l) now = some (refOf c o' w l', b) ∧ (o' = o ∨ o' = []) := by
  unfold gP gaI refOf
  rw [open_eq, Lb]
  dsimp only
  have hn := lenL_nn o
  have hb : Under (eqI (lenL o) 0) false (InB 0 (lenL o)) := fun q => by
    rw [eqI_d] at q
    have := of_decide_eq_false q
    exact ⟨by omega, by omega⟩
  rw [Le hb, Le hb]
  cases hc : pickB (eqI (lenL o) 0) true (ltI (subI .i64 now (nthI o 0).fO) c.fq) with
  | true => exact ⟨o, l, false, rfl, rfl, .inl rfl⟩
  | false => exact ⟨[], addI .i64 l (lenL o), true, rfl, rfl, .inr rfl⟩

theorem add_zero (a b : Int) : addI .i64 a b = addI .i64 (addI .i64 a b) 0 := by
  unfold addI; rw [IntKind.wrap_i64, IntKind.wrap_i64]; omega
theorem sub_zero (a b : Int) : subI .i64 a b = addI .i64 (subI .i64 a b) 0 := by
  unfold subI addI; rw [IntKind.wrap_i64, IntKind.wrap_i64]; omega

def fplaysI (c : Tp) (s : Int × Th × Tq × Int × Int × Int) : Prop :=
  0 ≤ s.1 ∧ s.1 ≤ 150 ∧ ∃ o w l, s.2.1 = .mk c ⟨o⟩ w l ∧ s.2.2.1 = refOf c o w l ∧ Held c o
end Go.Proofs
