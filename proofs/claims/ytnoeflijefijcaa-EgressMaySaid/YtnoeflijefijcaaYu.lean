/- The schedule and its reference choose the same flow. No condition. -/
import Derived.Test.YtnoeflijefijcaaYt
namespace Go.Proofs
open Go.Ab

theorem flv_congr {ids : List Int} {sh lf lf' : Int → Int} (h : ∀ i ∈ ids, lf i = lf' i) : flv ids sh lf = flv ids sh lf' := by
  unfold flv
  exact List.map_congr_left fun i hi => by rw [h i hi]
theorem flv_lenL (ids : List Int) (sh lf : Int → Int) : lenL (flv ids sh lf) = (ids.length : Int) := by unfold lenL; rw [flv_len]

/-- What is left, of those alone that have a head. -/
def lfZ (l : List Hd) (lf : Int → Int) : Int → Int := fun x => if x ∈ l.map (·.fId) then lf x else 0

section
variable {x : RS} {mo : Int} {sh lf : Int → Int} {at' : Int} {gr : Bool} {ids : List Int} {l : List Hd}

theorem rzero_ok (hx : x.fL = flv ids sh lf) (hm : x.fMost = mo) (hr : ids.Pairwise (· < ·)) (hi : ids.length ≤ 1000) (hsub : (l.map (·.fId)).Sublist ids) (hv : ∀ h ∈ l, 0 ≤ h.fSize ∧ h.fSize ≤ mo) :
    loopF (gRef19Choose.loop1 x l) (0, x.fL) = some (.go (flv ids sh (lfZ l lf))) := by
  have hnd : ids.Nodup := hr.imp fun h => by omega
  have hn : (l.map (·.fId)).Nodup := hnd.sublist hsub
  have hl : l.length ≤ 1000 := by have := hsub.length_le; simp only [List.length_map] at this; omega
  have hsz := rsize_ok (s := x) hn (by omega) (by rw [hm]; exact hv)
  have hnn := szOf_nn hn (fun h hh => (hv h hh).1)
  have key : ∀ n k : Nat, k + n = ids.length → loopF (gRef19Choose.loop1 x l) ((k : Int), flv ids sh (fun y => if y ∈ ids.take k then lfZ l lf y else lf y)) = some (.go (flv ids sh (lfZ l lf))) := by
    intro n
    induction n with
    | zero =>
      intro k hk
      have : k = ids.length := by omega
      subst this
      refine loop_out ?_
      unfold gRef19Choose.loop1
      simp only
      rw [hx, flv_lenL, ltI_f (by omega), List.take_length, cond_false]
      rw [flv_congr (lf' := lfZ l lf) fun i hi => by rw [if_pos hi]]
    | succ n ih =>
      intro k hk
      have hkl : k < ids.length := by omega
      have hnot : ids[k] ∉ ids.take k := fun q => by
        obtain ⟨j, hj, e⟩ := List.mem_iff_getElem.1 q
        have hj' : j < k := by simp only [List.length_take] at hj; omega
        rw [List.getElem_take] at e
        have := List.pairwise_iff_getElem.1 hr j k (by omega) hkl hj'
        omega
      have h1 : gRef19Choose.loop1 x l ((k : Int), flv ids sh (fun y => if y ∈ ids.take k then lfZ l lf y else lf y)) = some (.go (((k + 1 : Nat) : Int), flv ids sh (fun y => if y ∈ ids.take (k + 1) then lfZ l lf y else lf y))) := by
        unfold gRef19Choose.loop1
        simp only
        have hI : InB (k : Int) (lenL x.fL) := by rw [hx]; exact flv_inb hkl
        rw [ltI_t hI.2, cond_true, need_t hI, need_t (flv_inb hkl), flv_nth hkl, hsz, bind_so, need_t hI, need_t (flv_inb hkl), succ_n _ (by omega)]
        simp only
        rw [flv_set hkl hnd]
        have hstep : ∀ y ∈ ids, (if y ∈ ids.take (k + 1) then lfZ l lf y else lf y) = if y = ids[k] then lfZ l lf y else (if y ∈ ids.take k then lfZ l lf y else lf y) := fun y hy => by
          rw [List.take_succ_eq_append_getElem hkl]
          simp only [List.mem_append, List.mem_singleton]
          by_cases hy1 : y = ids[k]
          · rw [if_pos (.inr hy1), if_pos hy1]
          · rw [if_neg hy1]
            by_cases hy2 : y ∈ ids.take k
            · rw [if_pos (.inl hy2), if_pos hy2]
            · rw [if_neg (by rintro (q | q); exact hy2 q; exact hy1 q), if_neg hy2]
        rw [flv_congr hstep]
        by_cases hz : szOf l ids[k] < 0
        · rw [ltI_t hz, cond_true]
          have hm' : ids[k] ∉ l.map (·.fId) := fun q => by have := (hnn ids[k]).2 q; omega
          rw [flv_congr (lf := setF _ _ _) (lf' := fun y => if y = ids[k] then lfZ l lf y else (if y ∈ ids.take k then lfZ l lf y else lf y)) fun y hy => by
            simp only [setF]
            by_cases hy1 : y = ids[k]
            · rw [if_pos hy1, if_pos hy1, hy1]; simp only [lfZ, if_neg hm']
            · rw [if_neg hy1, if_neg hy1]]
        · rw [ltI_f hz, cond_false]
          have hm' : ids[k] ∈ l.map (·.fId) := (hnn ids[k]).1 (by omega)
          rw [flv_congr (lf := fun y => if y ∈ ids.take k then lfZ l lf y else lf y) (lf' := fun y => if y = ids[k] then lfZ l lf y else (if y ∈ ids.take k then lfZ l lf y else lf y)) fun y hy => by
            by_cases hy1 : y = ids[k]
            · rw [if_pos hy1, hy1, if_neg hnot]; simp only [lfZ, if_pos hm']
            · rw [if_neg hy1]]
      rw [loop_go h1]
      exact ih (k + 1) (by omega)
  have := key ids.length 0 (by omega)
  simp only [List.take_zero, List.not_mem_nil, if_false] at this
  rw [hx]
  exact this

theorem rround_ok (hx : x.fL = flv ids sh lf) (hm : x.fMost = mo) (hr : ids.Pairwise (· < ·)) (hi : ids.length ≤ 1000) (hsub : (l.map (·.fId)).Sublist ids) (hv : ∀ h ∈ l, 0 ≤ h.fSize ∧ h.fSize ≤ mo) (hne : l ≠ [])
    (n k : Nat) (hn1 : n < 1000) (hk : k < ids.length) (a0 : Int) (g : Bool) (f : Int → Int) (hf : 0 ≤ f ids[k] ∧ f ids[k] ≤ 1000000000) (hs : 0 ≤ sh ids[k] ∧ sh ids[k] ≤ 1000000000) :
    ∃ k', ∃ h : k' < ids.length, ids[k'] = nxI (l.map (·.fId)) ids[k] ∧ gRef19Choose.loop3 x l ((n : Int), (k : Int), a0, g, flv ids sh f) =
      if szOf l ids[k] ≤ (if g = true then f else setF f ids[k] (f ids[k] + sh ids[k])) ids[k]
      then some (.out (.out (⟨mo, flv ids sh (if g = true then f else setF f ids[k] (f ids[k] + sh ids[k])), ids[k], true⟩, ids[k], true)))
      else some (.go (((n + 1 : Nat) : Int), (k' : Int), ids[k], false, flv ids sh (if g = true then f else setF f ids[k] (f ids[k] + sh ids[k])))) := by
  have hnd : ids.Nodup := hr.imp fun h => by omega
  have hn : (l.map (·.fId)).Nodup := hnd.sublist hsub
  have hl : l.length ≤ 1000 := by have := hsub.length_le; simp only [List.length_map] at this; omega
  have hI : InB (k : Int) (lenL x.fL) := by rw [hx]; exact flv_inb hk
  have hJ : ∀ f' : Int → Int, InB (k : Int) (lenL (flv ids sh f')) := fun f' => flv_inb hk
  have hL : ∀ f' : Int → Int, lenL (flv ids sh f') = lenL x.fL := fun f' => by rw [hx, flv_lenL, flv_lenL]
  have hfin : ∀ f' : Int → Int, ∃ k', ∃ h : k' < ids.length, ids[k'] = nxI (l.map (·.fId)) ids[k] ∧ ∀ b : Bool, gRef19After ⟨x.fMost, flv ids sh f', ids[k], b⟩ l ids[k] = some (k' : Int) := fun f' => by
    obtain ⟨k', hk', e1, e2⟩ := rafter_ok (s := ⟨x.fMost, flv ids sh f', ids[k], true⟩) rfl hr (by omega) hsub (by omega) (by rw [hm]; exact hv) hne ids[k]
    refine ⟨k', hk', e1, fun b => ?_⟩
    obtain ⟨k2, hk2, e3, e4⟩ := rafter_ok (s := ⟨x.fMost, flv ids sh f', ids[k], b⟩) rfl hr (by omega) hsub (by omega) (by rw [hm]; exact hv) hne ids[k]
    have : k2 = k' := by
      have h0 : ids[k2] = ids[k'] := by rw [e3, e1]
      rcases Nat.lt_trichotomy k2 k' with h | h | h
      · exact absurd h0 (List.pairwise_iff_getElem.1 hnd k2 k' _ _ h)
      · exact h
      · exact absurd h0.symm (List.pairwise_iff_getElem.1 hnd k' k2 _ _ h)
    rw [e4, this]
  have hsz : ∀ (f' : Int → Int) (b : Bool), gRef19Size ⟨x.fMost, flv ids sh f', ids[k], b⟩ l ids[k] = some (szOf l ids[k]) := fun f' b => rsize_ok hn (by omega) (by rw [hm]; exact hv) _
  cases g with
  | true =>
    simp only [if_true]
    obtain ⟨k', hk', e1, e2⟩ := hfin f
    refine ⟨k', hk', e1, ?_⟩
    unfold gRef19Choose.loop3
    simp only
    rw [ltI_t (by omega), cond_true, need_t hI, need_t (hJ f), notB_f', cond_false]
    simp only [bind_so, flC_go, flv_nth hk]
    rw [need_t hI, need_t (hJ f), need_t (hL f), hsz]
    simp only [bind_so]
    rw [leI_d]
    by_cases hc : szOf l ids[k] ≤ f ids[k]
    · simp only [decide_eq_true hc, cond_true, if_pos hc, need_t (hL f), bind_so, flC_out, hm]
    · simp only [decide_eq_false hc, cond_false, if_neg hc, need_t (hL f), e2, bind_so, flC_go, succ_n n (by omega)]
  | false =>
    simp only [Bool.false_eq_true, if_false]
    obtain ⟨k', hk', e1, e2⟩ := hfin (setF f ids[k] (f ids[k] + sh ids[k]))
    refine ⟨k', hk', e1, ?_⟩
    unfold gRef19Choose.loop3
    simp only
    rw [ltI_t (by omega), cond_true, need_t hI, need_t (hJ f), notB_t', cond_true]
    simp only [need_t hI, need_t (hJ f), flv_nth hk]
    rw [addI_n (by omega) (by omega), flv_set hk hnd]
    simp only [bind_so, flC_go]
    rw [need_t (hJ _), need_t (hL _), hsz]
    simp only [bind_so, flv_nth hk]
    rw [leI_d]
    by_cases hc : szOf l ids[k] ≤ setF f ids[k] (f ids[k] + sh ids[k]) ids[k]
    · simp only [decide_eq_true hc, cond_true, if_pos hc, need_t (hL _), bind_so, flC_out, hm]
    · simp only [decide_eq_false hc, cond_false, if_neg hc, need_t (hL _), e2, bind_so, flC_go, succ_n n (by omega)]
end
end Go.Proofs
