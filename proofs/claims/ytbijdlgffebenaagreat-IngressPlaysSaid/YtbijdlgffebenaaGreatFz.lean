/- The law FramePlays holds of its plain function. No condition. -/
import Derived.Test.YtbijdlgffebenaaGreatM05
import Derived.Test.YtbijdlgffebenaaGreatM07
namespace Go.Proofs
open Go.Ab
abbrev Un := Tc

def folB (o : List Un) (u : Un) : Bool := bif eqI (lenL o) 0 then false else pickB (pickB (eqI u.fAt (addI .i64 ((nthI o (subI .i64 (lenL o) 1)).fAt) 1)) (eqI u.fT ((nthI o (subI .i64 (lenL o) 1)).fT)) false) (notB u.fz) false
structure Put3 where
  out : List Un
  ok : Bool
  o : List Un
  w : Int
  l : Int
def putC (c : Tu) (o : List Un) (w l : Int) (u : Un) : Put3 :=
  if c.fj < lenL (o ++ [u]) ∨ c.fw < sizeN (o ++ [u]) then ⟨[], false, [], w, addI .i64 l (lenL (o ++ [u]))⟩
  else if c.fu = true ∧ u.fC = false then ⟨[], false, o ++ [u], w, l⟩
  else ⟨o ++ [u], true, [], addI .i64 w 1, l⟩
def putP (c : Tu) (o : List Un) (w l : Int) (u : Un) : Put3 :=
  if folB o u = true then putC c o w l u
  else if c.fu = true ∧ u.fz = false then ⟨[], false, [], w, addI .i64 (addI .i64 l (lenL o)) 1⟩
  else putC c [] w (addI .i64 l (lenL o)) u
structure Small (c : Tu) (o : List Un) : Prop where
  u0 : 1 ≤ c.fj
  u1 : c.fj ≤ 8
  len : lenL o ≤ c.fj
  tx : ∀ u ∈ o, lenS u.fU ≤ 40
theorem sizeN_small : ∀ (o : List Un), (∀ u ∈ o, lenS u.fU ≤ 40) → sizeN o ≤ 40 * lenL o
  | [], _ => by simp [sizeN]
  | u :: r, h => by
    have h1 := sizeN_small r fun v hv => h v (by simp [hv])
    have h2 := h u (by simp)
    rw [lenL_cons]; unfold sizeN; omega
theorem small_app {c : Tu} {o : List Un} {u : Un} (h : Small c o) (hu : lenS u.fU ≤ 40) : sizeN (o ++ [u]) ≤ 400 ∧ lenL (o ++ [u]) ≤ 9 ∧ ∀ v ∈ o ++ [u], lenS v.fU ≤ 40 := by
  have a : ∀ v ∈ o ++ [u], lenS v.fU ≤ 40 := fun v hv => by
    rcases List.mem_append.1 hv with hv | hv
    · exact h.tx v hv
    · simp at hv; subst hv; exact hu
  have b := sizeN_small _ a
  have l1 : lenL (o ++ [u]) = lenL o + 1 := by unfold lenL; simp
  have := h.len; have := h.u1
  exact ⟨by omega, by omega, a⟩
theorem app_eq (o : List Un) (u : Un) : appL o [u] = o ++ [u] := rfl

theorem put_core {c : Tu} {o : List Un} {u : Un} (h : Small c o) (hu : lenS u.fU ≤ 40) (w l : Int) :
    (need (AppB 0 (lenL o) 48) <|
    need (AppB (lenL o) 1 48) <|
    ((gI (Tn.mk c (Tl.mk (appL o [u])) w l))).bind fun r3 =>
    need (Under (ltI c.fj r3) false ((gq (Tl.mk (appL o [u]))).isSome = true)) <|
    bif (pickB (ltI c.fj r3) true (ltI c.fw ((gq (Tl.mk (appL o [u]))).getD dflt))) then (
      ((gN (Tn.mk c (Tl.mk (appL o [u])) w l))).bind fun r4 =>
      some ((Tl.mk []), false, r4)
    ) else (
      bif (pickB c.fu (notB u.fC) false) then (
        some ((Tl.mk []), false, (Tn.mk c (Tl.mk (appL o [u])) w l))
      ) else (
        some ((Tl.mk (appL o [u])), true, (Tn.mk c (Tl.mk []) (addI .i64 w 1) l))
      )
    )) = some ((⟨(putC c o w l u).out⟩ : Tl), (putC c o w l u).ok, (.mk c ⟨(putC c o w l u).o⟩ (putC c o w l u).w (putC c o w l u).l : Tn)) := by
  obtain ⟨s1, s2, _⟩ := small_app h hu
  have := h.len; have := h.u1; have := h.u0
  have hl := lenL_nn o
  rw [Lk (show AppB 0 (lenL o) 48 by unfold AppB; omega), Lk (show AppB (lenL o) 1 48 by unfold AppB; omega), app_eq, size_eq _ (by omega) (by omega)]
  simp only [open_eq, Ld, Option.isSome_some, under_true, need_true, getD_so, pickB_or, pickB_and, notB_d]
  unfold putC gN
  by_cases hc : c.fj < lenL (o ++ [u]) ∨ c.fw < sizeN (o ++ [u])
  · rw [if_pos hc]
    have e : (ltI c.fj (lenL (o ++ [u])) || ltI c.fw (sizeN (o ++ [u]))) = true := by simp [ltI_d]; exact hc
    rw [e]; rfl
  · rw [if_neg hc]
    have e : (ltI c.fj (lenL (o ++ [u])) || ltI c.fw (sizeN (o ++ [u]))) = false := by simp [ltI_d]; omega
    rw [e, cond_false]
    by_cases hv : c.fu = true ∧ u.fC = false
    · rw [if_pos hv, hv.1, hv.2]; rfl
    · rw [if_neg hv]
      have e2 : (c.fu && !u.fC) = false := by
        cases h1 : c.fu <;> cases h2 : u.fC <;> simp_all
      rw [e2]; rfl

theorem fol_eq (c : Tu) (o : List Un) (w l : Int) (u : Un) (hl : lenL o ≤ 9) : gO (.mk c ⟨o⟩ w l) u = some (folB o u) := by
  unfold gO folB
  rw [open_eq, Ld]
  have := lenL_nn o
  by_cases h : lenL o = 0
  · rw [eqI_t h]; rfl
  · rw [eqI_f h, cond_false, cond_false]
    dsimp only
    rw [Lk (show InB (subI .i64 (lenL o) 1) (lenL o) by rw [subI_n (by omega) (by omega)]; exact ⟨by omega, by omega⟩)]
theorem put_eq {c : Tu} {o : List Un} {u : Un} (h : Small c o) (hu : lenS u.fU ≤ 40) (w l : Int) :
    gac (.mk c ⟨o⟩ w l) u = some ((⟨(putP c o w l u).out⟩ : Tl), (putP c o w l u).ok, (.mk c ⟨(putP c o w l u).o⟩ (putP c o w l u).w (putP c o w l u).l : Tn)) := by
  have hl := h.len
  have hu1 := h.u1
  have h0 : Small c [] := ⟨h.u0, h.u1, by have := h.u0; simp; omega, fun _ h => by cases h⟩
  unfold gac gN
  rw [fol_eq c o w l u (by omega), Ld]
  unfold putP
  cases hf : folB o u with
  | true =>
    rw [notB_f', cond_false, Ld, flC_go, if_pos rfl]
    exact put_core h hu w l
  | false =>
    rw [notB_t', cond_true, open_eq, Ld, Ld, if_neg (by decide)]
    dsimp only
    by_cases hv : c.fu = true ∧ u.fz = false
    · rw [if_pos hv, hv.1, hv.2]; rfl
    · have e2 : pickB c.fu (notB u.fz) false = false := by
        rw [pickB_and, notB_d]
        cases h1 : c.fu <;> cases h2 : u.fz <;> simp_all
      rw [if_neg hv, e2, cond_false, Ld, flC_go]
      exact put_core h0 hu w _

theorem rsize_eq (us : List Un) : gah us = gq ⟨us⟩ := rfl
theorem rput_core {c : Tu} {o : List Un} {u : Un} (h : Small c o) (hu : lenS u.fU ≤ 40) (w l : Int) :
    (need (AppB 0 (lenL o) 48) <|
        need (AppB (lenL o) 1 48) <|
        need (Under (ltI c.fj ((lenL o) + 1)) false ((gah (appL (appL [] o) [u])).isSome = true)) <|
        bif (pickB (ltI c.fj ((lenL o) + 1)) true (ltI c.fw ((gah (appL (appL [] o) [u])).getD dflt))) then (
          ((gau (Ts.mk c.fu c.fw c.fj c.fp (appL (appL [] o) [u]) w l))).bind fun r2 =>
          some (r2, [])
        ) else (
          bif (pickB c.fu (notB u.fC) false) then (
            some ((Ts.mk c.fu c.fw c.fj c.fp (appL (appL [] o) [u]) w l), [])
          ) else (
            some ((Ts.mk c.fu c.fw c.fj c.fp [] (addI .i64 w 1) l), (appL (appL [] o) [u]))
          )
        )) = some ((.mk c.fu c.fw c.fj c.fp (putC c o w l u).o (putC c o w l u).w (putC c o w l u).l : Ts), (putC c o w l u).out) := by
  obtain ⟨s1, s2, _⟩ := small_app h hu
  have := h.len; have := h.u1; have := h.u0
  have hl := lenL_nn o
  have ea : appL (appL [] o) [u] = o ++ [u] := rfl
  have l1 : lenL o + 1 = lenL (o ++ [u]) := by unfold lenL; simp
  rw [Lk (show AppB 0 (lenL o) 48 by unfold AppB; omega), Lk (show AppB (lenL o) 1 48 by unfold AppB; omega), ea, rsize_eq, size_eq _ (by omega) (by omega), l1]
  simp only [Option.isSome_some, under_true, need_true, getD_so, pickB_or, pickB_and, notB_d]
  unfold putC gau
  by_cases hc : c.fj < lenL (o ++ [u]) ∨ c.fw < sizeN (o ++ [u])
  · rw [if_pos hc]
    have e : (ltI c.fj (lenL (o ++ [u])) || ltI c.fw (sizeN (o ++ [u]))) = true := by simp [ltI_d]; exact hc
    rw [e]; rfl
  · rw [if_neg hc]
    have e : (ltI c.fj (lenL (o ++ [u])) || ltI c.fw (sizeN (o ++ [u]))) = false := by simp [ltI_d]; omega
    rw [e, cond_false]
    by_cases hv : c.fu = true ∧ u.fC = false
    · rw [if_pos hv, hv.1, hv.2]; rfl
    · rw [if_neg hv]
      have e2 : (c.fu && !u.fC) = false := by
        cases h1 : c.fu <;> cases h2 : u.fC <;> simp_all
      rw [e2]; rfl
theorem rput_eq {c : Tu} {o : List Un} {u : Un} (h : Small c o) (hu : lenS u.fU ≤ 40) (w l : Int) :
    gaF (.mk c.fu c.fw c.fj c.fp o w l) u = some ((.mk c.fu c.fw c.fj c.fp (putP c o w l u).o (putP c o w l u).w (putP c o w l u).l : Ts), (putP c o w l u).out) := by
  have hl := h.len
  have hu1 := h.u1
  have hn := lenL_nn o
  have h0 : Small c [] := ⟨h.u0, h.u1, by have := h.u0; simp; omega, fun _ h => by cases h⟩
  have key : (bif (ltI 0 (lenL o)) then (
      need (InB (subI .i64 (lenL o) 1) (lenL o)) <|
      some (.go (pickB (pickB (eqI u.fAt (addI .i64 ((nthI o (subI .i64 (lenL o) 1)).fAt) 1)) (eqI u.fT ((nthI o (subI .i64 (lenL o) 1)).fT)) false) (notB u.fz) false))
    ) else (
      some (.go false)
    ) : Option (Fl Bool (Ts × List Tc))) = some (.go (folB o u)) := by
    unfold folB
    by_cases h : lenL o = 0
    · rw [eqI_t h, ltI_f (by omega)]; rfl
    · rw [eqI_f h, ltI_t (show 0 < lenL o by omega), cond_true, cond_false, Lk (show InB (subI .i64 (lenL o) 1) (lenL o) by rw [subI_n (by omega) (by omega)]; exact ⟨by omega, by omega⟩)]
  unfold gaF
  dsimp only
  rw [key, Ld, flC_go]
  unfold putP
  cases hf : folB o u with
  | true =>
    have e : pickB (pickB (notB true) c.fu false) (notB u.fz) false = false := by cases c.fu <;> cases u.fz <;> rfl
    rw [notB_f', cond_false, Ld, flC_go, if_pos rfl]
    dsimp only
    rw [show pickB (pickB false c.fu false) (notB u.fz) false = false from e, cond_false]
    exact rput_core h hu w l
  | false =>
    rw [notB_t', cond_true, if_neg (by decide)]
    unfold gau
    rw [Ld, Ld, flC_go]
    dsimp only
    by_cases hv : c.fu = true ∧ u.fz = false
    · rw [if_pos hv, hv.1, hv.2]; rfl
    · have e2 : pickB (pickB true c.fu false) (notB u.fz) false = false := by
        cases h1 : c.fu <;> cases h2 : u.fz <;> simp_all <;> rfl
      rw [if_neg hv, e2, cond_false]
      exact rput_core h0 hu w _

/-! What is held: a chain -/
def ChainP (video : Bool) (o : List Un) : Prop := ∀ i, 0 ≤ i → i < lenL o → (nthI o i).fT = (nthI o 0).fT ∧ (nthI o i).fAt = addI .i64 (nthI o 0).fAt i ∧ (video = true → (nthI o i).fz = decide (i = 0))
structure Held (c : Tu) (o : List Un) : Prop where
  sm : Small c o
  ch : ChainP c.fu o
  nm : c.fu = true → ∀ u ∈ o, u.fC = false
  ns : c.fu = false → o = []
theorem nth_app_lt (o : List Un) (u : Un) {i : Int} (h0 : 0 ≤ i) (h : i < lenL o) : nthI (o ++ [u]) i = nthI o i := by
  unfold nthI lenL at *
  rw [List.getD_eq_getElem?_getD, List.getD_eq_getElem?_getD, List.getElem?_append_left (by omega)]
theorem nth_app_eq (o : List Un) (u : Un) : nthI (o ++ [u]) (lenL o) = u := by
  unfold nthI lenL
  rw [List.getD_eq_getElem?_getD]
  simp
theorem add_add (a k : Int) : addI .i64 (addI .i64 a k) 1 = addI .i64 a (k + 1) := by
  unfold addI; rw [IntKind.wrap_i64, IntKind.wrap_i64, IntKind.wrap_i64]; omega
theorem chain_app {video : Bool} {o : List Un} {u : Un} (h : ChainP video o) (hl : lenL o ≤ 9) (hf : folB o u = true) : ChainP video (o ++ [u]) := by
  have l1 : lenL (o ++ [u]) = lenL o + 1 := by unfold lenL; simp
  have hn := lenL_nn o
  unfold folB at hf
  by_cases hz : lenL o = 0
  · rw [eqI_t hz] at hf; cases hf
  rw [eqI_f hz, cond_false, pickB_and, pickB_and, notB_d, subI_n (by omega) (by omega), eqI_d, eqI_d] at hf
  simp only [Bool.and_eq_true, decide_eq_true_eq, Bool.not_eq_true'] at hf
  obtain ⟨⟨f1, f2⟩, f3⟩ := hf
  obtain ⟨g1, g2, g3⟩ := h (lenL o - 1) (by omega) (by omega)
  intro i i0 i1
  have e0 : nthI (o ++ [u]) 0 = nthI o 0 := nth_app_lt o u (by omega) (by omega)
  rw [e0]
  by_cases hi : i < lenL o
  · rw [nth_app_lt o u i0 hi]; exact h i i0 hi
  · have : i = lenL o := by omega
    subst this
    rw [nth_app_eq]
    refine ⟨by rw [f2, g1], ?_, fun hv => ?_⟩
    · rw [f1, g2, add_add]; congr 1; omega
    · rw [f3]; simp; omega
theorem chain_one {video : Bool} {u : Un} (ha : u.fAt = addI .i64 u.fAt 0) (hs : video = true → u.fz = true) : ChainP video ([] ++ [u]) := by
  intro i i0 i1
  have : i = 0 := by simp at i1; omega
  subst this
  have e : nthI ([] ++ [u]) 0 = u := rfl
  rw [e]
  exact ⟨rfl, ha, fun hv => by rw [hs hv]; rfl⟩
theorem held_nil {c : Tu} (h0 : 1 ≤ c.fj) (h1 : c.fj ≤ 8) : Held c [] :=
  ⟨⟨h0, h1, by simp; omega, (fun _ h => by cases h)⟩, (fun i a b => by simp at b; omega), (fun _ _ h => by cases h), fun _ => rfl⟩
structure FrameOk (video : Bool) (o : List Un) : Prop where
  ch : ChainP video o
  ma : video = true → ∀ i, 0 ≤ i → i < lenL o → (nthI o i).fC = decide (i = lenL o - 1)
  one : video = false → lenL o ≤ 1
  len : lenL o ≤ 9
theorem putC_ok {c : Tu} {o : List Un} {u : Un} (h : Small c o) (hu : lenS u.fU ≤ 40) (w l : Int) (hc : ChainP c.fu (o ++ [u])) (hm : c.fu = true → ∀ v ∈ o, v.fC = false) (hs : c.fu = false → o = []) :
    Held c (putC c o w l u).o ∧ FrameOk c.fu (putC c o w l u).out ∧ (putC c o w l u).ok = ltI 0 (lenL (putC c o w l u).out) := by
  have hn := held_nil h.u0 h.u1
  have en : FrameOk c.fu [] := ⟨hn.ch, fun _ i a b => by simp at b; omega, fun _ => by simp, by simp⟩
  obtain ⟨s1, s2, s3⟩ := small_app h hu
  have l1 : lenL (o ++ [u]) = lenL o + 1 := by unfold lenL; simp
  have hn0 := lenL_nn o
  unfold putC
  split
  · exact ⟨hn, en, rfl⟩
  · rename_i hg
    split
    · rename_i hv
      refine ⟨⟨⟨h.u0, h.u1, by dsimp only; omega, s3⟩, hc, fun _ v hv2 => ?_, fun q => by rw [hv.1] at q; cases q⟩, en, rfl⟩
      rcases List.mem_append.1 hv2 with hv2 | hv2
      · exact hm hv.1 v hv2
      · simp at hv2; subst hv2; exact hv.2
    · rename_i hv
      refine ⟨hn, ⟨hc, fun q i a b => ?_, fun q => by rw [hs q]; simp, s2⟩, ?_⟩
      · dsimp only at b ⊢
        by_cases hi : i < lenL o
        · rw [nth_app_lt o u a hi, hm q _ (by
            unfold nthI; unfold lenL at hi
            rw [List.getD_eq_getElem?_getD, List.getElem?_eq_getElem (by omega)]
            exact List.getElem_mem _), l1]
          simp; omega
        · have : i = lenL o := by omega
          subst this
          rw [nth_app_eq, l1]
          have : u.fC = true := by
            cases hmk : u.fC
            · exact absurd ⟨q, hmk⟩ hv
            · rfl
          rw [this]; simp
      · show true = ltI 0 (lenL (o ++ [u]))
        rw [ltI_d]; simp; omega
theorem putP_ok {c : Tu} {o : List Un} {u : Un} (h : Held c o) (hu : lenS u.fU ≤ 40) (ha : u.fAt = addI .i64 u.fAt 0) (w l : Int) :
    Held c (putP c o w l u).o ∧ FrameOk c.fu (putP c o w l u).out ∧ (putP c o w l u).ok = ltI 0 (lenL (putP c o w l u).out) := by
  have hn := held_nil h.sm.u0 h.sm.u1
  have en : FrameOk c.fu [] := ⟨hn.ch, fun _ i a b => by simp at b; omega, fun _ => by simp, by simp⟩
  have hl := h.sm.len
  have hu1 := h.sm.u1
  unfold putP
  split
  · rename_i hf
    exact putC_ok h.sm hu w l (chain_app h.ch (by omega) hf) h.nm h.ns
  · split
    · exact ⟨hn, en, rfl⟩
    · rename_i hv
      exact putC_ok hn.sm hu w _ (chain_one ha fun q => by
        cases hs : u.fz
        · exact absurd ⟨q, hs⟩ hv
        · rfl) (fun _ _ h => by cases h) (fun _ => rfl)

/-! The parts of the law -/
def refOf (c : Tu) (o : List Un) (w l : Int) : Ts := .mk c.fu c.fw c.fj c.fp o w l
theorem tick_both (c : Tu) (o : List Un) (w l now : Int) : ∃ o' l' b, gY (.mk c ⟨o⟩ w l) now = some (b, .mk c ⟨o'⟩ w l') ∧ gaH (refOf c o w l) now = some (refOf c o' w l', b) ∧ (o' = o ∨ o' = []) := by
  unfold gY gaH refOf
  rw [open_eq, Ld]
  dsimp only
  have hn := lenL_nn o
  have hb : Under (eqI (lenL o) 0) false (InB 0 (lenL o)) := fun q => by
    rw [eqI_d] at q
    have := of_decide_eq_false q
    exact ⟨by omega, by omega⟩
  rw [Lk hb, Lk hb]
  cases hc : pickB (eqI (lenL o) 0) true (ltI (subI .i64 now (nthI o 0).fO) c.fp) with
  | true => exact ⟨o, l, false, rfl, rfl, .inl rfl⟩
  | false => exact ⟨[], addI .i64 l (lenL o), true, rfl, rfl, .inr rfl⟩

theorem add_zero (a b : Int) : addI .i64 a b = addI .i64 (addI .i64 a b) 0 := by
  unfold addI; rw [IntKind.wrap_i64, IntKind.wrap_i64]; omega
theorem sub_zero (a b : Int) : subI .i64 a b = addI .i64 (subI .i64 a b) 0 := by
  unfold subI addI; rw [IntKind.wrap_i64, IntKind.wrap_i64]; omega

end Go.Proofs
