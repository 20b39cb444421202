/- The law FramePlays holds of its plain function. No condition. -/
import Derived.Test.YtahmmpmmmkbemaaFq
import Derived.Test.YtahmmpmmmkbemaaFyD
import Derived.Test.YtahmmpmmmkbemaaWdD
import Derived.Test.YtahmmpmmmkbemaaRfD
namespace Go.Proofs
open Go.Ab
abbrev Un := Antiphonref10Unit

def folB (o : List Un) (u : Un) : Bool := bif eqI (lenL o) 0 then false else pickB (pickB (eqI u.fAt (addI .i64 ((nthI o (subI .i64 (lenL o) 1)).fAt) 1)) (eqI u.fTime ((nthI o (subI .i64 (lenL o) 1)).fTime)) false) (notB u.fStart) false
structure Put3 where
  out : List Un
  ok : Bool
  o : List Un
  w : Int
  l : Int
def putC (c : FrameConfig) (o : List Un) (w l : Int) (u : Un) : Put3 :=
  if c.fUnits < lenL (o ++ [u]) ∨ c.fBytes < sizeN (o ++ [u]) then ⟨[], false, [], w, addI .i64 l (lenL (o ++ [u]))⟩
  else if c.fVideo = true ∧ u.fMarker = false then ⟨[], false, o ++ [u], w, l⟩
  else ⟨o ++ [u], true, [], addI .i64 w 1, l⟩
def putP (c : FrameConfig) (o : List Un) (w l : Int) (u : Un) : Put3 :=
  if folB o u = true then putC c o w l u
  else if c.fVideo = true ∧ u.fStart = false then ⟨[], false, [], w, addI .i64 (addI .i64 l (lenL o)) 1⟩
  else putC c [] w (addI .i64 l (lenL o)) u
/-- What is held is small. -/
structure Small (c : FrameConfig) (o : List Un) : Prop where
  u0 : 1 ≤ c.fUnits
  u1 : c.fUnits ≤ 8
  len : lenL o ≤ c.fUnits
  tx : ∀ u ∈ o, lenS u.fText ≤ 40
theorem sizeN_small : ∀ (o : List Un), (∀ u ∈ o, lenS u.fText ≤ 40) → sizeN o ≤ 40 * lenL o
  | [], _ => by simp [sizeN]
  | u :: r, h => by
    have h1 := sizeN_small r fun v hv => h v (by simp [hv])
    have h2 := h u (by simp)
    rw [lenL_cons]; unfold sizeN; omega
theorem small_app {c : FrameConfig} {o : List Un} {u : Un} (h : Small c o) (hu : lenS u.fText ≤ 40) : sizeN (o ++ [u]) ≤ 400 ∧ lenL (o ++ [u]) ≤ 9 ∧ ∀ v ∈ o ++ [u], lenS v.fText ≤ 40 := by
  have a : ∀ v ∈ o ++ [u], lenS v.fText ≤ 40 := fun v hv => by
    rcases List.mem_append.1 hv with hv | hv
    · exact h.tx v hv
    · simp at hv; subst hv; exact hu
  have b := sizeN_small _ a
  have l1 : lenL (o ++ [u]) = lenL o + 1 := by unfold lenL; simp
  have := h.len; have := h.u1
  exact ⟨by omega, by omega, a⟩
theorem app_eq (o : List Un) (u : Un) : appL o [u] = o ++ [u] := rfl

theorem put_core {c : FrameConfig} {o : List Un} {u : Un} (h : Small c o) (hu : lenS u.fText ≤ 40) (w l : Int) :
    (need (AppB 0 (lenL o) 48) <|
    need (AppB (lenL o) 1 48) <|
    ((gFrameMakerOpen (FrameMaker.mk c (FrameFrame.mk (appL o [u])) w l))).bind fun r3 =>
    need (Under (ltI c.fUnits r3) false ((gFrameFrameSize (FrameFrame.mk (appL o [u]))).isSome = true)) <|
    bif (pickB (ltI c.fUnits r3) true (ltI c.fBytes ((gFrameFrameSize (FrameFrame.mk (appL o [u]))).getD dflt))) then (
      ((gFrameMakerDrop (FrameMaker.mk c (FrameFrame.mk (appL o [u])) w l))).bind fun r4 =>
      some ((FrameFrame.mk []), false, r4)
    ) else (
      bif (pickB c.fVideo (notB u.fMarker) false) then (
        some ((FrameFrame.mk []), false, (FrameMaker.mk c (FrameFrame.mk (appL o [u])) w l))
      ) else (
        some ((FrameFrame.mk (appL o [u])), true, (FrameMaker.mk c (FrameFrame.mk []) (addI .i64 w 1) l))
      )
    )) = some ((⟨(putC c o w l u).out⟩ : FrameFrame), (putC c o w l u).ok, (.mk c ⟨(putC c o w l u).o⟩ (putC c o w l u).w (putC c o w l u).l : FrameMaker)) := by
  obtain ⟨s1, s2, _⟩ := small_app h hu
  have := h.len; have := h.u1; have := h.u0
  have hl := lenL_nn o
  rw [need_t (show AppB 0 (lenL o) 48 by unfold AppB; omega), need_t (show AppB (lenL o) 1 48 by unfold AppB; omega), app_eq, size_eq _ (by omega) (by omega)]
  simp only [open_eq, bind_so, Option.isSome_some, under_true, need_true, getD_so, pickB_or, pickB_and, notB_d]
  unfold putC gFrameMakerDrop
  by_cases hc : c.fUnits < lenL (o ++ [u]) ∨ c.fBytes < sizeN (o ++ [u])
  · rw [if_pos hc]
    have e : (ltI c.fUnits (lenL (o ++ [u])) || ltI c.fBytes (sizeN (o ++ [u]))) = true := by simp [ltI_d]; exact hc
    rw [e]; rfl
  · rw [if_neg hc]
    have e : (ltI c.fUnits (lenL (o ++ [u])) || ltI c.fBytes (sizeN (o ++ [u]))) = false := by simp [ltI_d]; omega
    rw [e, cond_false]
    by_cases hv : c.fVideo = true ∧ u.fMarker = false
    · rw [if_pos hv, hv.1, hv.2]; rfl
    · rw [if_neg hv]
      have e2 : (c.fVideo && !u.fMarker) = false := by
        cases h1 : c.fVideo <;> cases h2 : u.fMarker <;> simp_all
      rw [e2]; rfl

theorem fol_eq (c : FrameConfig) (o : List Un) (w l : Int) (u : Un) (hl : lenL o ≤ 9) : gFrameMakerFollows (.mk c ⟨o⟩ w l) u = some (folB o u) := by
  unfold gFrameMakerFollows folB
  rw [open_eq, bind_so]
  have := lenL_nn o
  by_cases h : lenL o = 0
  · rw [eqI_t h]; rfl
  · rw [eqI_f h, cond_false, cond_false]
    dsimp only
    rw [need_t (show InB (subI .i64 (lenL o) 1) (lenL o) by rw [subI_n (by omega) (by omega)]; exact ⟨by omega, by omega⟩)]
theorem put_eq {c : FrameConfig} {o : List Un} {u : Un} (h : Small c o) (hu : lenS u.fText ≤ 40) (w l : Int) :
    gFrameMakerPut (.mk c ⟨o⟩ w l) u = some ((⟨(putP c o w l u).out⟩ : FrameFrame), (putP c o w l u).ok, (.mk c ⟨(putP c o w l u).o⟩ (putP c o w l u).w (putP c o w l u).l : FrameMaker)) := by
  have hl := h.len
  have hu1 := h.u1
  have h0 : Small c [] := ⟨h.u0, h.u1, by have := h.u0; simp; omega, fun _ h => by cases h⟩
  unfold gFrameMakerPut gFrameMakerDrop
  rw [fol_eq c o w l u (by omega), bind_so]
  unfold putP
  cases hf : folB o u with
  | true =>
    rw [notB_f', cond_false, bind_so, flC_go, if_pos rfl]
    exact put_core h hu w l
  | false =>
    rw [notB_t', cond_true, open_eq, bind_so, bind_so, if_neg (by decide)]
    dsimp only
    by_cases hv : c.fVideo = true ∧ u.fStart = false
    · rw [if_pos hv, hv.1, hv.2]; rfl
    · have e2 : pickB c.fVideo (notB u.fStart) false = false := by
        rw [pickB_and, notB_d]
        cases h1 : c.fVideo <;> cases h2 : u.fStart <;> simp_all
      rw [if_neg hv, e2, cond_false, bind_so, flC_go]
      exact put_core h0 hu w _

theorem rsize_eq (us : List Un) : gRef10Size us = gFrameFrameSize ⟨us⟩ := rfl
theorem rput_core {c : FrameConfig} {o : List Un} {u : Un} (h : Small c o) (hu : lenS u.fText ≤ 40) (w l : Int) :
    (need (AppB 0 (lenL o) 48) <|
        need (AppB (lenL o) 1 48) <|
        need (Under (ltI c.fUnits ((lenL o) + 1)) false ((gRef10Size (appL (appL [] o) [u])).isSome = true)) <|
        bif (pickB (ltI c.fUnits ((lenL o) + 1)) true (ltI c.fBytes ((gRef10Size (appL (appL [] o) [u])).getD dflt))) then (
          ((gRef10Drop (Antiphonref10Maker.mk c.fVideo c.fBytes c.fUnits c.fWait (appL (appL [] o) [u]) w l))).bind fun r2 =>
          some (r2, [])
        ) else (
          bif (pickB c.fVideo (notB u.fMarker) false) then (
            some ((Antiphonref10Maker.mk c.fVideo c.fBytes c.fUnits c.fWait (appL (appL [] o) [u]) w l), [])
          ) else (
            some ((Antiphonref10Maker.mk c.fVideo c.fBytes c.fUnits c.fWait [] (addI .i64 w 1) l), (appL (appL [] o) [u]))
          )
        )) = some ((.mk c.fVideo c.fBytes c.fUnits c.fWait (putC c o w l u).o (putC c o w l u).w (putC c o w l u).l : Antiphonref10Maker), (putC c o w l u).out) := by
  obtain ⟨s1, s2, _⟩ := small_app h hu
  have := h.len; have := h.u1; have := h.u0
  have hl := lenL_nn o
  have ea : appL (appL [] o) [u] = o ++ [u] := rfl
  have l1 : lenL o + 1 = lenL (o ++ [u]) := by unfold lenL; simp
  rw [need_t (show AppB 0 (lenL o) 48 by unfold AppB; omega), need_t (show AppB (lenL o) 1 48 by unfold AppB; omega), ea, rsize_eq, size_eq _ (by omega) (by omega), l1]
  simp only [Option.isSome_some, under_true, need_true, getD_so, pickB_or, pickB_and, notB_d]
  unfold putC gRef10Drop
  by_cases hc : c.fUnits < lenL (o ++ [u]) ∨ c.fBytes < sizeN (o ++ [u])
  · rw [if_pos hc]
    have e : (ltI c.fUnits (lenL (o ++ [u])) || ltI c.fBytes (sizeN (o ++ [u]))) = true := by simp [ltI_d]; exact hc
    rw [e]; rfl
  · rw [if_neg hc]
    have e : (ltI c.fUnits (lenL (o ++ [u])) || ltI c.fBytes (sizeN (o ++ [u]))) = false := by simp [ltI_d]; omega
    rw [e, cond_false]
    by_cases hv : c.fVideo = true ∧ u.fMarker = false
    · rw [if_pos hv, hv.1, hv.2]; rfl
    · rw [if_neg hv]
      have e2 : (c.fVideo && !u.fMarker) = false := by
        cases h1 : c.fVideo <;> cases h2 : u.fMarker <;> simp_all
      rw [e2]; rfl
theorem rput_eq {c : FrameConfig} {o : List Un} {u : Un} (h : Small c o) (hu : lenS u.fText ≤ 40) (w l : Int) :
    gRef10Put (.mk c.fVideo c.fBytes c.fUnits c.fWait o w l) u = some ((.mk c.fVideo c.fBytes c.fUnits c.fWait (putP c o w l u).o (putP c o w l u).w (putP c o w l u).l : Antiphonref10Maker), (putP c o w l u).out) := by
  have hl := h.len
  have hu1 := h.u1
  have hn := lenL_nn o
  have h0 : Small c [] := ⟨h.u0, h.u1, by have := h.u0; simp; omega, fun _ h => by cases h⟩
  have key : (bif (ltI 0 (lenL o)) then (
      need (InB (subI .i64 (lenL o) 1) (lenL o)) <|
      some (.go (pickB (pickB (eqI u.fAt (addI .i64 ((nthI o (subI .i64 (lenL o) 1)).fAt) 1)) (eqI u.fTime ((nthI o (subI .i64 (lenL o) 1)).fTime)) false) (notB u.fStart) false))
    ) else (
      some (.go false)
    ) : Option (Fl Bool (Antiphonref10Maker × List Antiphonref10Unit))) = some (.go (folB o u)) := by
    unfold folB
    by_cases h : lenL o = 0
    · rw [eqI_t h, ltI_f (by omega)]; rfl
    · rw [eqI_f h, ltI_t (show 0 < lenL o by omega), cond_true, cond_false, need_t (show InB (subI .i64 (lenL o) 1) (lenL o) by rw [subI_n (by omega) (by omega)]; exact ⟨by omega, by omega⟩)]
  unfold gRef10Put
  dsimp only
  rw [key, bind_so, flC_go]
  unfold putP
  cases hf : folB o u with
  | true =>
    have e : pickB (pickB (notB true) c.fVideo false) (notB u.fStart) false = false := by cases c.fVideo <;> cases u.fStart <;> rfl
    rw [notB_f', cond_false, bind_so, flC_go, if_pos rfl]
    dsimp only
    rw [show pickB (pickB false c.fVideo false) (notB u.fStart) false = false from e, cond_false]
    exact rput_core h hu w l
  | false =>
    rw [notB_t', cond_true, if_neg (by decide)]
    unfold gRef10Drop
    rw [bind_so, bind_so, flC_go]
    dsimp only
    by_cases hv : c.fVideo = true ∧ u.fStart = false
    · rw [if_pos hv, hv.1, hv.2]; rfl
    · have e2 : pickB (pickB true c.fVideo false) (notB u.fStart) false = false := by
        cases h1 : c.fVideo <;> cases h2 : u.fStart <;> simp_all <;> rfl
      rw [if_neg hv, e2, cond_false]
      exact rput_core h0 hu w _

/-! What is held: a chain -/
def ChainP (video : Bool) (o : List Un) : Prop := ∀ i, 0 ≤ i → i < lenL o → (nthI o i).fTime = (nthI o 0).fTime ∧ (nthI o i).fAt = addI .i64 (nthI o 0).fAt i ∧ (video = true → (nthI o i).fStart = decide (i = 0))
structure Held (c : FrameConfig) (o : List Un) : Prop where
  sm : Small c o
  ch : ChainP c.fVideo o
  nm : c.fVideo = true → ∀ u ∈ o, u.fMarker = false
  ns : c.fVideo = false → o = []
theorem nth_app_lt (o : List Un) (u : Un) {i : Int} (h0 : 0 ≤ i) (h : i < lenL o) : nthI (o ++ [u]) i = nthI o i := by
  unfold nthI lenL at *
  rw [List.getD_eq_getElem?_getD, List.getD_eq_getElem?_getD, List.getElem?_append_left (by omega)]
theorem nth_app_eq (o : List Un) (u : Un) : nthI (o ++ [u]) (lenL o) = u := by
  unfold nthI lenL
  rw [List.getD_eq_getElem?_getD]
  simp
theorem add_add (a k : Int) : addI .i64 (addI .i64 a k) 1 = addI .i64 a (k + 1) := by
  unfold addI; rw [IntKind.wrap_i64, IntKind.wrap_i64, IntKind.wrap_i64]; omega
theorem chain_app {video : Bool} {o : List Un} {u : Un} (h : ChainP video o) (hl : lenL o ≤ 9) (hf : folB o u = true) : ChainP video (o ++ [u]) := by
  have l1 : lenL (o ++ [u]) = lenL o + 1 := by unfold lenL; simp
  have hn := lenL_nn o
  unfold folB at hf
  by_cases hz : lenL o = 0
  · rw [eqI_t hz] at hf; cases hf
  rw [eqI_f hz, cond_false, pickB_and, pickB_and, notB_d, subI_n (by omega) (by omega), eqI_d, eqI_d] at hf
  simp only [Bool.and_eq_true, decide_eq_true_eq, Bool.not_eq_true'] at hf
  obtain ⟨⟨f1, f2⟩, f3⟩ := hf
  obtain ⟨g1, g2, g3⟩ := h (lenL o - 1) (by omega) (by omega)
  intro i i0 i1
  have e0 : nthI (o ++ [u]) 0 = nthI o 0 := nth_app_lt o u (by omega) (by omega)
  rw [e0]
  by_cases hi : i < lenL o
  · rw [nth_app_lt o u i0 hi]; exact h i i0 hi
  · have : i = lenL o := by omega
    subst this
    rw [nth_app_eq]
    refine ⟨by rw [f2, g1], ?_, fun hv => ?_⟩
    · rw [f1, g2, add_add]; congr 1; omega
    · rw [f3]; simp; omega
theorem chain_one {video : Bool} {u : Un} (ha : u.fAt = addI .i64 u.fAt 0) (hs : video = true → u.fStart = true) : ChainP video ([] ++ [u]) := by
  intro i i0 i1
  have : i = 0 := by simp at i1; omega
  subst this
  have e : nthI ([] ++ [u]) 0 = u := rfl
  rw [e]
  exact ⟨rfl, ha, fun hv => by rw [hs hv]; rfl⟩
theorem held_nil {c : FrameConfig} (h0 : 1 ≤ c.fUnits) (h1 : c.fUnits ≤ 8) : Held c [] :=
  ⟨⟨h0, h1, by simp; omega, (fun _ h => by cases h)⟩, (fun i a b => by simp at b; omega), (fun _ _ h => by cases h), fun _ => rfl⟩

/-- What a frame looks like. -/
structure FrameOk (video : Bool) (o : List Un) : Prop where
  ch : ChainP video o
  ma : video = true → ∀ i, 0 ≤ i → i < lenL o → (nthI o i).fMarker = decide (i = lenL o - 1)
  one : video = false → lenL o ≤ 1
  len : lenL o ≤ 9
theorem putC_ok {c : FrameConfig} {o : List Un} {u : Un} (h : Small c o) (hu : lenS u.fText ≤ 40) (w l : Int) (hc : ChainP c.fVideo (o ++ [u])) (hm : c.fVideo = true → ∀ v ∈ o, v.fMarker = false) (hs : c.fVideo = false → o = []) :
    Held c (putC c o w l u).o ∧ FrameOk c.fVideo (putC c o w l u).out ∧ (putC c o w l u).ok = ltI 0 (lenL (putC c o w l u).out) := by
  have hn := held_nil h.u0 h.u1
  have en : FrameOk c.fVideo [] := ⟨hn.ch, fun _ i a b => by simp at b; omega, fun _ => by simp, by simp⟩
  obtain ⟨s1, s2, s3⟩ := small_app h hu
  have l1 : lenL (o ++ [u]) = lenL o + 1 := by unfold lenL; simp
  have hn0 := lenL_nn o
  unfold putC
  split
  · exact ⟨hn, en, rfl⟩
  · rename_i hg
    split
    · rename_i hv
      refine ⟨⟨⟨h.u0, h.u1, by dsimp only; omega, s3⟩, hc, fun _ v hv2 => ?_, fun q => by rw [hv.1] at q; cases q⟩, en, rfl⟩
      rcases List.mem_append.1 hv2 with hv2 | hv2
      · exact hm hv.1 v hv2
      · simp at hv2; subst hv2; exact hv.2
    · rename_i hv
      refine ⟨hn, ⟨hc, fun q i a b => ?_, fun q => by rw [hs q]; simp, s2⟩, ?_⟩
      · dsimp only at b ⊢
        by_cases hi : i < lenL o
        · rw [nth_app_lt o u a hi, hm q _ (by
            unfold nthI; unfold lenL at hi
            rw [List.getD_eq_getElem?_getD, List.getElem?_eq_getElem (by omega)]
            exact List.getElem_mem _), l1]
          simp; omega
        · have : i = lenL o := by omega
          subst this
          rw [nth_app_eq, l1]
          have : u.fMarker = true := by
            cases hmk : u.fMarker
            · exact absurd ⟨q, hmk⟩ hv
            · rfl
          rw [this]; simp
      · show true = ltI 0 (lenL (o ++ [u]))
        rw [ltI_d]; simp; omega
theorem putP_ok {c : FrameConfig} {o : List Un} {u : Un} (h : Held c o) (hu : lenS u.fText ≤ 40) (ha : u.fAt = addI .i64 u.fAt 0) (w l : Int) :
    Held c (putP c o w l u).o ∧ FrameOk c.fVideo (putP c o w l u).out ∧ (putP c o w l u).ok = ltI 0 (lenL (putP c o w l u).out) := by
  have hn := held_nil h.sm.u0 h.sm.u1
  have en : FrameOk c.fVideo [] := ⟨hn.ch, fun _ i a b => by simp at b; omega, fun _ => by simp, by simp⟩
  have hl := h.sm.len
  have hu1 := h.sm.u1
  unfold putP
  split
  · rename_i hf
    exact putC_ok h.sm hu w l (chain_app h.ch (by omega) hf) h.nm h.ns
  · split
    · exact ⟨hn, en, rfl⟩
    · rename_i hv
      exact putC_ok hn.sm hu w _ (chain_one ha fun q => by
        cases hs : u.fStart
        · exact absurd ⟨q, hs⟩ hv
        · rfl) (fun _ _ h => by cases h) (fun _ => rfl)

/-! The parts of the law -/
theorem same_t (a : List Un) (hl : lenL a ≤ 1000) : gLaw10Same a a = some true := by
  unfold gLaw10Same
  have e : neI (lenL a) (lenL a) = false := by rw [neI_d]; simp
  rw [e, cond_false]
  obtain ⟨t, ht, rfl⟩ := loop_ends (body := gLaw10Same.loop1 a a) (fun s => 0 ≤ s) (fun t => t = .go ()) (fun s => (lenL a - s).toNat) (fun i h0 => by
    unfold gLaw10Same.loop1
    by_cases hc : i < lenL a
    · have q : notB (pickB (eqI ((nthI a i).fAt) ((nthI a i).fAt)) (pickB (eqI ((nthI a i).fTime) ((nthI a i).fTime)) (pickB (eqB ((nthI a i).fMarker) ((nthI a i).fMarker)) (pickB (eqB ((nthI a i).fStart) ((nthI a i).fStart)) (pickB (eqB ((nthI a i).fKey) ((nthI a i).fKey)) (pickB (eqS ((nthI a i).fText) ((nthI a i).fText)) (eqI ((nthI a i).fTick) ((nthI a i).fTick)) false) false) false) false) false) false) = false := by
        simp [eqI_d, eqB_d, eqS, pickB_and, notB_d]
      rw [show ltI i (lenL a) = true from decide_eq_true hc, cond_true, need_t (show InB i (lenL a) from ⟨h0, hc⟩), need_t (show InB i (lenL a) from ⟨h0, hc⟩), q, cond_false, addI_n (by omega) (by omega)]
      exact ⟨by omega, by dsimp only; omega⟩
    · rw [show ltI i (lenL a) = false from decide_eq_false hc, cond_false]
      exact rfl) 0 (by simp)
  rw [ht]; rfl
theorem cut_ok (s : ByteArray) : ∃ t, gLaw01Cut s 40 = some t ∧ lenS t ≤ 40 := by
  unfold gLaw01Cut
  by_cases h : 40 < lenS s
  · rw [ltI_d, decide_eq_true h, cond_true, need_t (show CutB 0 40 (lenS s) from ⟨by omega, by omega, by omega⟩)]
    refine ⟨_, rfl, ?_⟩
    unfold lenS cutS
    rw [ByteArray.size_extract]
    omega
  · rw [ltI_d, decide_eq_false h, cond_false]
    exact ⟨s, rfl, by omega⟩
def refOf (c : FrameConfig) (o : List Un) (w l : Int) : Antiphonref10Maker := .mk c.fVideo c.fBytes c.fUnits c.fWait o w l
theorem tick_both (c : FrameConfig) (o : List Un) (w l now : Int) : ∃ o' l' b, gFrameMakerTick (.mk c ⟨o⟩ w l) now = some (b, .mk c ⟨o'⟩ w l') ∧ gRef10Tick (refOf c o w l) now = some (refOf c o' w l', b) ∧ (o' = o ∨ o' = []) := by
  unfold gFrameMakerTick gRef10Tick refOf
  rw [open_eq, bind_so]
  dsimp only
  have hn := lenL_nn o
  have hb : Under (eqI (lenL o) 0) false (InB 0 (lenL o)) := fun q => by
    rw [eqI_d] at q
    have := of_decide_eq_false q
    exact ⟨by omega, by omega⟩
  rw [need_t hb, need_t hb]
  cases hc : pickB (eqI (lenL o) 0) true (ltI (subI .i64 now (nthI o 0).fTick) c.fWait) with
  | true => exact ⟨o, l, false, rfl, rfl, .inl rfl⟩
  | false => exact ⟨[], addI .i64 l (lenL o), true, rfl, rfl, .inr rfl⟩

theorem add_zero (a b : Int) : addI .i64 a b = addI .i64 (addI .i64 a b) 0 := by
  unfold addI; rw [IntKind.wrap_i64, IntKind.wrap_i64]; omega
theorem sub_zero (a b : Int) : subI .i64 a b = addI .i64 (subI .i64 a b) 0 := by
  unfold subI addI; rw [IntKind.wrap_i64, IntKind.wrap_i64]; omega

theorem does_ok (c : FrameConfig) (o : List Un) (w l at_ tm now : Int) (a : Antiphonlaw10Act) (h : Held c o) :
    ∃ o' w' l' at' tm' now' f, gLaw10Does (.mk (.mk c ⟨o⟩ w l) (refOf c o w l) at_ tm now) a = some (.mk (.mk c ⟨o'⟩ w' l') (refOf c o' w' l') at' tm' now', ⟨f⟩, true) ∧ Held c o' ∧ FrameOk c.fVideo f := by
  have hn := held_nil h.sm.u0 h.sm.u1
  have en : FrameOk c.fVideo [] := ⟨hn.ch, fun _ i a b => by simp at b; omega, fun _ => by simp, by simp⟩
  unfold gLaw10Does
  dsimp only
  cases h1 : eqI a.fKind 1 with
  | true =>
    rw [cond_true]
    obtain ⟨t, ht, htl⟩ := cut_ok a.fS
    have main : ∀ v1 : Int, v1 = addI .i64 v1 0 → ∃ o' w' l' at' tm' now' f, (((gLaw01Cut a.fS 40)).bind fun r1 =>
      ((gFrameMakerPut (.mk c ⟨o⟩ w l) (Antiphonref10Unit.mk v1 (addI .i64 tm (bitsOp .and .i64 a.fLater 1023)) a.fMarker a.fStart a.fKey r1 now))).bind fun r2 =>
      ((gRef10Put (refOf c o w l) (Antiphonref10Unit.mk v1 (addI .i64 tm (bitsOp .and .i64 a.fLater 1023)) a.fMarker a.fStart a.fKey r1 now))).bind fun r3 =>
      need (Under (eqB r2.2.1 (ltI 0 (lenL r3.2))) true ((gLaw10Same r2.1.fUnits r3.2).isSome = true)) <|
      need (Under (pickB (eqB r2.2.1 (ltI 0 (lenL r3.2))) ((gLaw10Same r2.1.fUnits r3.2).getD dflt) false) true ((gFrameFrameSize r2.1).isSome = true)) <|
      need (Under (pickB (eqB r2.2.1 (ltI 0 (lenL r3.2))) ((gLaw10Same r2.1.fUnits r3.2).getD dflt) false) true ((gRef10Size r3.2).isSome = true)) <|
      some ((Antiphonlaw10State.mk r2.2.2 r3.1 v1 (addI .i64 tm (bitsOp .and .i64 a.fLater 1023)) now), r2.1, (pickB (pickB (eqB r2.2.1 (ltI 0 (lenL r3.2))) ((gLaw10Same r2.1.fUnits r3.2).getD dflt) false) (eqI ((gFrameFrameSize r2.1).getD dflt) ((gRef10Size r3.2).getD dflt)) false))) =
        some (Antiphonlaw10State.mk (.mk c ⟨o'⟩ w' l') (refOf c o' w' l') at' tm' now', (⟨f⟩ : FrameFrame), true) ∧ Held c o' ∧ FrameOk c.fVideo f := by
      intro v1 hv1
      rw [ht, bind_so]
      generalize hu : Antiphonref10Unit.mk v1 (addI .i64 tm (bitsOp .and .i64 a.fLater 1023)) a.fMarker a.fStart a.fKey t now = u
      have u1 : lenS u.fText ≤ 40 := by rw [← hu]; exact htl
      have u2 : u.fAt = addI .i64 u.fAt 0 := by rw [← hu]; exact hv1
      obtain ⟨k1, k2, k3⟩ := putP_ok h u1 u2 w l
      unfold refOf
      rw [put_eq h.sm u1 w l, bind_so, rput_eq h.sm u1 w l, bind_so]
      dsimp only
      have k4 := k2.len
      rw [same_t _ (by omega), k3, rsize_eq]
      simp only [Option.isSome_some, under_true, need_true, getD_so]
      have e : eqB (ltI 0 (lenL (putP c o w l u).out)) (ltI 0 (lenL (putP c o w l u).out)) = true := by rw [eqB_d]; simp
      rw [e]
      have sz : sizeN (putP c o w l u).out < 9223372036854775808 := by
        have tx : ∀ v ∈ (putP c o w l u).out, lenS v.fText ≤ 40 := by
          have a1 := (small_app h.sm u1).2.2
          have a2 := (small_app hn.sm u1).2.2
          unfold putP putC
          split
          · split
            · exact fun _ h => by cases h
            · split
              · exact fun _ h => by cases h
              · exact a1
          · split
            · exact fun _ h => by cases h
            · split
              · exact fun _ h => by cases h
              · split
                · exact fun _ h => by cases h
                · exact a2
        have := sizeN_small _ tx
        omega
      rw [size_eq _ sz (by omega)]
      simp only [Option.isSome_some, under_true, need_true, getD_so]
      have e2 : pickB (pickB true true false) (eqI (sizeN (putP c o w l u).out) (sizeN (putP c o w l u).out)) false = true := by
        rw [eqI_d]; simp
      rw [e2]
      exact ⟨(putP c o w l u).o, (putP c o w l u).w, (putP c o w l u).l, v1, _, now, (putP c o w l u).out, rfl, k1, k2⟩
    cases h3 : eqI (bitsOp .and .i64 a.fBy 3) 3 with
    | true => rw [cond_true, bind_so, flC_go]; exact main _ (sub_zero _ _)
    | false => rw [cond_false, bind_so, flC_go]; exact main _ (add_zero _ _)
  | false =>
    rw [cond_false]
    cases h2 : eqI a.fKind 2 with
    | true =>
      rw [cond_true]
      obtain ⟨o', l', b, t1, t2, t3⟩ := tick_both c o w l (addI .i64 now (bitsOp .and .i64 a.fBy 31))
      rw [t1, bind_so, t2, bind_so]
      have e : eqB b b = true := by rw [eqB_d]; simp
      refine ⟨o', w, l', at_, tm, _, [], by dsimp only; rw [e], ?_, en⟩
      rcases t3 with rfl | rfl
      · exact h
      · exact hn
    | false =>
      rw [cond_false]
      exact ⟨o, w, l, at_, tm, now, [], rfl, h, en⟩

theorem frames_loop (video : Bool) (f : List Un) (h : FrameOk video f) (st : Antiphonlaw10State) (is : Bool) (_X : Type) :
    loopF (gLaw10FramePlays.loop2 video (st, ⟨f⟩, is)) 0 = some (.go ()) := by
  have hl := h.len
  obtain ⟨t, ht, rfl⟩ := loop_ends (body := gLaw10FramePlays.loop2 video (st, ⟨f⟩, is)) (fun s => 0 ≤ s) (fun t => t = .go ()) (fun s => (lenL f - s).toNat) (fun i h0 => by
    unfold gLaw10FramePlays.loop2
    dsimp only
    by_cases hc : i < lenL f
    · have b0 : InB 0 (lenL f) := ⟨by omega, by omega⟩
      obtain ⟨c1, c2, c3⟩ := h.ch i h0 hc
      have tm : gFrameFrameTime ⟨f⟩ = some (nthI f 0).fTime := by
        unfold gFrameFrameTime
        dsimp only
        rw [eqI_f (show lenL f ≠ 0 by omega), cond_false, need_t b0]
      have ky : gFrameFrameKey ⟨f⟩ = some (nthI f 0).fKey := by
        unfold gFrameFrameKey
        dsimp only
        rw [need_t (under_of b0), show ltI 0 (lenL f) = true from decide_eq_true (by omega)]
        simp
      rw [show ltI i (lenL f) = true from decide_eq_true hc, cond_true, need_t (show InB i (lenL f) from ⟨h0, hc⟩), need_t (under_of b0), tm, ky]
      simp only [Option.isSome_some, under_true, need_true, getD_so]
      rw [need_t (under_of b0), subI_n (by omega) (by omega), addI_n (a := i) (by omega) (by omega)]
      have q1 : pickB video (pickB (neB ((nthI f i).fStart) (eqI i 0)) true (neB ((nthI f i).fMarker) (eqI i (lenL f - 1)))) false = false := by
        cases hv : video with
        | false => rfl
        | true =>
          rw [c3 hv, h.ma hv i h0 hc]
          simp [pickB_or, neB_d, eqI_d]
      have q2 : neI ((nthI f i).fAt) (addI .i64 ((nthI f 0).fAt) i) = false := by rw [← c2, neI_d]; simp
      have q3 : neI ((nthI f i).fTime) (nthI f 0).fTime = false := by rw [c1, neI_d]; simp
      have q4 : neB (nthI f 0).fKey (nthI f 0).fKey = false := by rw [neB_d]; simp
      rw [q1, q2, q3, q4]
      exact ⟨by omega, by dsimp only; omega⟩
    · rw [show ltI i (lenL f) = false from decide_eq_false hc, cond_false]
      exact rfl) 0 (by simp)
  exact ht

def fplaysI (c : FrameConfig) (s : Int × FrameMaker × Antiphonref10Maker × Int × Int × Int) : Prop :=
  0 ≤ s.1 ∧ s.1 ≤ 150 ∧ ∃ o w l, s.2.1 = .mk c ⟨o⟩ w l ∧ s.2.2.1 = refOf c o w l ∧ Held c o
theorem fplays_round (c : FrameConfig) (x4 : List Antiphonlaw10Act) (s : Int × FrameMaker × Antiphonref10Maker × Int × Int × Int) (hI : fplaysI c s) :
    RoundP (fplaysI c) (fun t : Fl (FrameMaker × Antiphonref10Maker × Int × Int × Int) Bool => ∃ v, t = .go v) (fun s => (150 - s.1).toNat) s (gLaw10FramePlays.loop1 c.fVideo x4 s) := by
  obtain ⟨i, m, x, at_, tm, now⟩ := s
  obtain ⟨h0, h1, o, w, l, e1, e2, hh⟩ := hI
  simp only at h0 h1 e1 e2
  subst e1; subst e2
  unfold gLaw10FramePlays.loop1
  dsimp only
  by_cases hc : i < lenL x4 ∧ i < 150
  case neg =>
    have e : pickB (ltI i (lenL x4)) (ltI i 150) false = false := by simp [pickB_and, ltI_d]; omega
    rw [e, cond_false]
    exact ⟨_, rfl⟩
  have e : pickB (ltI i (lenL x4)) (ltI i 150) false = true := by simp [pickB_and, ltI_d, hc]
  obtain ⟨o', w', l', at', tm', now', f, hd, k1, k2⟩ := does_ok c o w l at_ tm now (nthI x4 i) hh
  rw [e, cond_true, need_t (show InB i (lenL x4) from ⟨h0, hc.1⟩), hd, bind_so]
  dsimp only
  rw [counts_eq, bind_so, open_eq]
  simp only [Option.isSome_some, under_true, need_true, getD_so]
  have q : pickB (pickB (pickB (notB true) true (neI (lenL o') (lenL (refOf c o' w' l').fOpen))) true (neI w' (refOf c o' w' l').fWhole)) true (neI l' (refOf c o' w' l').fLost) = false := by
    simp [refOf, pickB_or, neI_d, notB_d]
  rw [q, cond_false]
  have q2 : pickB (pickB (ltI 0 (lenL f)) (notB c.fVideo) false) (neI (lenL f) 1) false = false := by
    rw [pickB_and, pickB_and, notB_d, ltI_d, neI_d]
    cases hv : c.fVideo with
    | true => simp
    | false =>
      have := k2.one hv
      simp; omega
  rw [q2, cond_false, frames_loop c.fVideo f k2 _ _ Unit, bind_so, flC_go, addI_n (by omega) (by omega)]
  exact ⟨⟨by dsimp only; omega, by dsimp only; omega, o', w', l', rfl, rfl, k1⟩, by dsimp only; omega⟩

theorem fplays_true (x0 : Bool) (x1 x2 x3 : Int) (x4 : List Antiphonlaw10Act) : gLaw10FramePlays x0 x1 x2 x3 x4 = some true := by
  unfold gLaw10FramePlays gLaw10Begin
  obtain ⟨a, ha, a0, a1⟩ := mask_n 6 (by decide) x1 63 (by decide)
  obtain ⟨b, hb, b0, b1⟩ := mask_n 3 (by decide) x2 7 (by decide)
  obtain ⟨d, hd, d0, d1⟩ := mask_n 4 (by decide) x3 15 (by decide)
  rw [ha, hb, hd, addI_n (by omega) (by omega), addI_n (by omega) (by omega), frame_new _ (by dsimp only; omega), bind_so, optC_some, bind_so, awake10_t, bind_so]
  have e : pickB (notB true) true (notB (pickB (eqI 0 0) true false)) = false := by decide
  dsimp only
  rw [e, cond_false]
  obtain ⟨t, ht, v, rfl⟩ := loop_ends _ _ _ (fplays_round (.mk x0 (1 + a) (1 + b) d) x4) (0, .mk (.mk x0 (1 + a) (1 + b) d) ⟨[]⟩ 0 0, .mk x0 (1 + a) (1 + b) d [] 0 0, 1000, 5000, 0)
    ⟨by simp, by simp, [], 0, 0, rfl, rfl, held_nil (by dsimp only; omega) (by dsimp only; omega)⟩
  rw [ht]; rfl
end Go.Proofs
