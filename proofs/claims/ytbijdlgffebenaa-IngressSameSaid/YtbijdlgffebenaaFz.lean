/- The law FramePlays holds of its plain function. No condition. -/
import Derived.Test.YtbijdlgffebenaaM01
import Derived.Test.YtbijdlgffebenaaM09
import Derived.Test.YtbijdlgffebenaaM02
namespace Go.Proofs
open Go.Ab
abbrev Un := Antiphonref10Unit

def folB (o : List Un) (u : Un) : Bool := bif eqI (lenL o) 0 then false else pickB (pickB (eqI u.fAt (addI .i64 ((nthI o (subI .i64 (lenL o) 1)).fAt) 1)) (eqI u.fTime ((nthI o (subI .i64 (lenL o) 1)).fTime)) false) (notB u.fStart) false
structure Put3 where
  out : List Un
  ok : Bool
  o : List Un
  w : Int
  l : Int
def putC (c : FrameConfig) (o : List Un) (w l : Int) (u : Un) : Put3 :=
  if c.fUnits < lenL (o ++ [u]) ∨ c.fBytes < sizeN (o ++ [u]) then ⟨[], false, [], w, addI .i64 l (lenL (o ++ [u]))⟩
  else if c.fVideo = true ∧ u.fMarker = false then ⟨[], false, o ++ [u], w, l⟩
  else ⟨o ++ [u], true, [], addI .i64 w 1, l⟩
def putP (c : FrameConfig) (o : List Un) (w l : Int) (u : Un) : Put3 :=
  if folB o u = true then putC c o w l u
  else if c.fVideo = true ∧ u.fStart = false then ⟨[], false, [], w, addI .i64 (addI .i64 l (lenL o)) 1⟩
  else putC c [] w (addI .i64 l (lenL o)) u
/-- What is held is small. -/
structure Small (c : FrameConfig) (o : List Un) : Prop where
  u0 : 1 ≤ c.fUnits
  u1 : c.fUnits ≤ 8
  len : lenL o ≤ c.fUnits
  tx : ∀ u ∈ o, lenS u.fText ≤ 40
theorem sizeN_small : ∀ (o : List Un), (∀ u ∈ o, lenS u.fText ≤ 40) → sizeN o ≤ 40 * lenL o
  | [], _ => by simp [sizeN]
  | u :: r, h => by
    have h1 := sizeN_small r fun v hv => h v (by simp [hv])
    have h2 := h u (by simp)
    rw [lenL_cons]; unfold sizeN; omega
theorem small_app {c : FrameConfig} {o : List Un} {u : Un} (h : Small c o) (hu : lenS u.fText ≤ 40) : sizeN (o ++ [u]) ≤ 400 ∧ lenL (o ++ [u]) ≤ 9 ∧ ∀ v ∈ o ++ [u], lenS v.fText ≤ 40 := by
  have a : ∀ v ∈ o ++ [u], lenS v.fText ≤ 40 := fun v hv => by
    rcases List.mem_append.1 hv with hv | hv
    · exact h.tx v hv
    · simp at hv; subst hv; exact hu
  have b := sizeN_small _ a
  have l1 : lenL (o ++ [u]) = lenL o + 1 := by unfold lenL; simp
  have := h.len; have := h.u1
  exact ⟨by omega, by omega, a⟩
theorem app_eq (o : List Un) (u : Un) : appL o [u] = o ++ [u] := rfl

theorem put_core {c : FrameConfig} {o : List Un} {u : Un} (h : Small c o) (hu : lenS u.fText ≤ 40) (w l : Int) :
    (need (AppB 0 (lenL o) 48) <|
    need (AppB (lenL o) 1 48) <|
    ((gFrameMakerOpen (FrameMaker.mk c (FrameFrame.mk (appL o [u])) w l))).bind fun r3 =>
    need (Under (ltI c.fUnits r3) false ((gFrameFrameSize (FrameFrame.mk (appL o [u]))).isSome = true)) <|
    bif (pickB (ltI c.fUnits r3) true (ltI c.fBytes ((gFrameFrameSize (FrameFrame.mk (appL o [u]))).getD dflt))) then (
      ((gFrameMakerDrop (FrameMaker.mk c (FrameFrame.mk (appL o [u])) w l))).bind fun r4 =>
      some ((FrameFrame.mk []), false, r4)
    ) else (
      bif (pickB c.fVideo (notB u.fMarker) false) then (
        some ((FrameFrame.mk []), false, (FrameMaker.mk c (FrameFrame.mk (appL o [u])) w l))
      ) else (
        some ((FrameFrame.mk (appL o [u])), true, (FrameMaker.mk c (FrameFrame.mk []) (addI .i64 w 1) l))
      )
    )) = some ((⟨(putC c o w l u).out⟩ : FrameFrame), (putC c o w l u).ok, (.mk c ⟨(putC c o w l u).o⟩ (putC c o w l u).w (putC c o w l u).l : FrameMaker)) := by
  obtain ⟨s1, s2, _⟩ := small_app h hu
  have := h.len; have := h.u1; have := h.u0
  have hl := lenL_nn o
  rw [need_t (show AppB 0 (lenL o) 48 by unfold AppB; omega), need_t (show AppB (lenL o) 1 48 by unfold AppB; omega), app_eq, size_eq _ (by omega) (by omega)]
  simp only [open_eq, bind_so, Option.isSome_some, under_true, need_true, getD_so, pickB_or, pickB_and, notB_d]
  unfold putC gFrameMakerDrop
  by_cases hc : c.fUnits < lenL (o ++ [u]) ∨ c.fBytes < sizeN (o ++ [u])
  · rw [if_pos hc]
    have e : (ltI c.fUnits (lenL (o ++ [u])) || ltI c.fBytes (sizeN (o ++ [u]))) = true := by simp [ltI_d]; exact hc
    rw [e]; rfl
  · rw [if_neg hc]
    have e : (ltI c.fUnits (lenL (o ++ [u])) || ltI c.fBytes (sizeN (o ++ [u]))) = false := by simp [ltI_d]; omega
    rw [e, cond_false]
    by_cases hv : c.fVideo = true ∧ u.fMarker = false
    · rw [if_pos hv, hv.1, hv.2]; rfl
    · rw [if_neg hv]
      have e2 : (c.fVideo && !u.fMarker) = false := by
        cases h1 : c.fVideo <;> cases h2 : u.fMarker <;> simp_all
      rw [e2]; rfl

theorem fol_eq (c : FrameConfig) (o : List Un) (w l : Int) (u : Un) (hl : lenL o ≤ 9) : gFrameMakerFollows (.mk c ⟨o⟩ w l) u = some (folB o u) := by
  unfold gFrameMakerFollows folB
  rw [open_eq, bind_so]
  have := lenL_nn o
  by_cases h : lenL o = 0
  · rw [eqI_t h]; rfl
  · rw [eqI_f h, cond_false, cond_false]
    dsimp only
    rw [need_t (show InB (subI .i64 (lenL o) 1) (lenL o) by rw [subI_n (by omega) (by omega)]; exact ⟨by omega, by omega⟩)]
theorem put_eq {c : FrameConfig} {o : List Un} {u : Un} (h : Small c o) (hu : lenS u.fText ≤ 40) (w l : Int) :
    gFrameMakerPut (.mk c ⟨o⟩ w l) u = some ((⟨(putP c o w l u).out⟩ : FrameFrame), (putP c o w l u).ok, (.mk c ⟨(putP c o w l u).o⟩ (putP c o w l u).w (putP c o w l u).l : FrameMaker)) := by
  have hl := h.len
  have hu1 := h.u1
  have h0 : Small c [] := ⟨h.u0, h.u1, by have := h.u0; simp; omega, fun _ h => by cases h⟩
  unfold gFrameMakerPut gFrameMakerDrop
  rw [fol_eq c o w l u (by omega), bind_so]
  unfold putP
  cases hf : folB o u with
  | true =>
    rw [notB_f', cond_false, bind_so, flC_go, if_pos rfl]
    exact put_core h hu w l
  | false =>
    rw [notB_t', cond_true, open_eq, bind_so, bind_so, if_neg (by decide)]
    dsimp only
    by_cases hv : c.fVideo = true ∧ u.fStart = false
    · rw [if_pos hv, hv.1, hv.2]; rfl
    · have e2 : pickB c.fVideo (notB u.fStart) false = false := by
        rw [pickB_and, notB_d]
        cases h1 : c.fVideo <;> cases h2 : u.fStart <;> simp_all
      rw [if_neg hv, e2, cond_false, bind_so, flC_go]
      exact put_core h0 hu w _

/-! What is held: a chain -/
def ChainP (video : Bool) (o : List Un) : Prop := ∀ i, 0 ≤ i → i < lenL o → (nthI o i).fTime = (nthI o 0).fTime ∧ (nthI o i).fAt = addI .i64 (nthI o 0).fAt i ∧ (video = true → (nthI o i).fStart = decide (i = 0))
structure Held (c : FrameConfig) (o : List Un) : Prop where
  sm : Small c o
  ch : ChainP c.fVideo o
  nm : c.fVideo = true → ∀ u ∈ o, u.fMarker = false
  ns : c.fVideo = false → o = []
theorem nth_app_lt (o : List Un) (u : Un) {i : Int} (h0 : 0 ≤ i) (h : i < lenL o) : nthI (o ++ [u]) i = nthI o i := by
  unfold nthI lenL at *
  rw [List.getD_eq_getElem?_getD, List.getD_eq_getElem?_getD, List.getElem?_append_left (by omega)]
theorem nth_app_eq (o : List Un) (u : Un) : nthI (o ++ [u]) (lenL o) = u := by
  unfold nthI lenL
  rw [List.getD_eq_getElem?_getD]
  simp
theorem add_add (a k : Int) : addI .i64 (addI .i64 a k) 1 = addI .i64 a (k + 1) := by
  unfold addI; rw [IntKind.wrap_i64, IntKind.wrap_i64, IntKind.wrap_i64]; omega
theorem chain_app {video : Bool} {o : List Un} {u : Un} (h : ChainP video o) (hl : lenL o ≤ 9) (hf : folB o u = true) : ChainP video (o ++ [u]) := by
  have l1 : lenL (o ++ [u]) = lenL o + 1 := by unfold lenL; simp
  have hn := lenL_nn o
  unfold folB at hf
  by_cases hz : lenL o = 0
  · rw [eqI_t hz] at hf; cases hf
  rw [eqI_f hz, cond_false, pickB_and, pickB_and, notB_d, subI_n (by omega) (by omega), eqI_d, eqI_d] at hf
  simp only [Bool.and_eq_true, decide_eq_true_eq, Bool.not_eq_true'] at hf
  obtain ⟨⟨f1, f2⟩, f3⟩ := hf
  obtain ⟨g1, g2, g3⟩ := h (lenL o - 1) (by omega) (by omega)
  intro i i0 i1
  have e0 : nthI (o ++ [u]) 0 = nthI o 0 := nth_app_lt o u (by omega) (by omega)
  rw [e0]
  by_cases hi : i < lenL o
  · rw [nth_app_lt o u i0 hi]; exact h i i0 hi
  · have : i = lenL o := by omega
    subst this
    rw [nth_app_eq]
    refine ⟨by rw [f2, g1], ?_, fun hv => ?_⟩
    · rw [f1, g2, add_add]; congr 1; omega
    · rw [f3]; simp; omega
theorem chain_one {video : Bool} {u : Un} (ha : u.fAt = addI .i64 u.fAt 0) (hs : video = true → u.fStart = true) : ChainP video ([] ++ [u]) := by
  intro i i0 i1
  have : i = 0 := by simp at i1; omega
  subst this
  have e : nthI ([] ++ [u]) 0 = u := rfl
  rw [e]
  exact ⟨rfl, ha, fun hv => by rw [hs hv]; rfl⟩
theorem held_nil {c : FrameConfig} (h0 : 1 ≤ c.fUnits) (h1 : c.fUnits ≤ 8) : Held c [] :=
  ⟨⟨h0, h1, by simp; omega, (fun _ h => by cases h)⟩, (fun i a b => by simp at b; omega), (fun _ _ h => by cases h), fun _ => rfl⟩

/-- What a frame looks like. -/
structure FrameOk (video : Bool) (o : List Un) : Prop where
  ch : ChainP video o
  ma : video = true → ∀ i, 0 ≤ i → i < lenL o → (nthI o i).fMarker = decide (i = lenL o - 1)
  one : video = false → lenL o ≤ 1
  len : lenL o ≤ 9
theorem putC_ok {c : FrameConfig} {o : List Un} {u : Un} (h : Small c o) (hu : lenS u.fText ≤ 40) (w l : Int) (hc : ChainP c.fVideo (o ++ [u])) (hm : c.fVideo = true → ∀ v ∈ o, v.fMarker = false) (hs : c.fVideo = false → o = []) :
    Held c (putC c o w l u).o ∧ FrameOk c.fVideo (putC c o w l u).out ∧ (putC c o w l u).ok = ltI 0 (lenL (putC c o w l u).out) := by
  have hn := held_nil h.u0 h.u1
  have en : FrameOk c.fVideo [] := ⟨hn.ch, fun _ i a b => by simp at b; omega, fun _ => by simp, by simp⟩
  obtain ⟨s1, s2, s3⟩ := small_app h hu
  have l1 : lenL (o ++ [u]) = lenL o + 1 := by unfold lenL; simp
  have hn0 := lenL_nn o
  unfold putC
  split
  · exact ⟨hn, en, rfl⟩
  · rename_i hg
    split
    · rename_i hv
      refine ⟨⟨⟨h.u0, h.u1, by dsimp only; omega, s3⟩, hc, fun _ v hv2 => ?_, fun q => by rw [hv.1] at q; cases q⟩, en, rfl⟩
      rcases List.mem_append.1 hv2 with hv2 | hv2
      · exact hm hv.1 v hv2
      · simp at hv2; subst hv2; exact hv.2
    · rename_i hv
      refine ⟨hn, ⟨hc, fun q i a b => ?_, fun q => by rw [hs q]; simp, s2⟩, ?_⟩
      · dsimp only at b ⊢
        by_cases hi : i < lenL o
        · rw [nth_app_lt o u a hi, hm q _ (by
            unfold nthI; unfold lenL at hi
            rw [List.getD_eq_getElem?_getD, List.getElem?_eq_getElem (by omega)]
            exact List.getElem_mem _), l1]
          simp; omega
        · have : i = lenL o := by omega
          subst this
          rw [nth_app_eq, l1]
          have : u.fMarker = true := by
            cases hmk : u.fMarker
            · exact absurd ⟨q, hmk⟩ hv
            · rfl
          rw [this]; simp
      · show true = ltI 0 (lenL (o ++ [u]))
        rw [ltI_d]; simp; omega
theorem putP_ok {c : FrameConfig} {o : List Un} {u : Un} (h : Held c o) (hu : lenS u.fText ≤ 40) (ha : u.fAt = addI .i64 u.fAt 0) (w l : Int) :
    Held c (putP c o w l u).o ∧ FrameOk c.fVideo (putP c o w l u).out ∧ (putP c o w l u).ok = ltI 0 (lenL (putP c o w l u).out) := by
  have hn := held_nil h.sm.u0 h.sm.u1
  have en : FrameOk c.fVideo [] := ⟨hn.ch, fun _ i a b => by simp at b; omega, fun _ => by simp, by simp⟩
  have hl := h.sm.len
  have hu1 := h.sm.u1
  unfold putP
  split
  · rename_i hf
    exact putC_ok h.sm hu w l (chain_app h.ch (by omega) hf) h.nm h.ns
  · split
    · exact ⟨hn, en, rfl⟩
    · rename_i hv
      exact putC_ok hn.sm hu w _ (chain_one ha fun q => by
        cases hs : u.fStart
        · exact absurd ⟨q, hs⟩ hv
        · rfl) (fun _ _ h => by cases h) (fun _ => rfl)

/-! The parts of the law -/
def refOf (c : FrameConfig) (o : List Un) (w l : Int) : Antiphonref10Maker := .mk c.fVideo c.fBytes c.fUnits c.fWait o w l
theorem add_zero (a b : Int) : addI .i64 a b = addI .i64 (addI .i64 a b) 0 := by
  unfold addI; rw [IntKind.wrap_i64, IntKind.wrap_i64]; omega
theorem sub_zero (a b : Int) : subI .i64 a b = addI .i64 (subI .i64 a b) 0 := by
  unfold subI addI; rw [IntKind.wrap_i64, IntKind.wrap_i64]; omega

end Go.Proofs
