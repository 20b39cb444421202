/- A choice, a taking, a removal: the schedule and its reference stay the same. No condition. -/
import Derived.Test.YtpjplfnapgpfmaaGreatM07
namespace Go.Proofs
open Go.Ab
def LfOk (mo : Int) (lf : Int → Int) (a : Int) (gr : Bool) : Prop := ∀ y, 0 ≤ lf y ∧ (lf y ≤ mo ∨ (y = a ∧ gr = true ∧ lf y ≤ mo + 16777216))

section
variable {s : Tp} {mo : Int} {sh lf : Int → Int} {a : Int} {gr : Bool} {ids : List Int} {l : List Hd}

theorem rstart_ok (hr : ids.Pairwise (· < ·)) (hi : ids.length ≤ 1000) (hsub : (l.map (·.fId)).Sublist ids) (hv : ∀ h ∈ l, 0 ≤ h.fj ∧ h.fj ≤ mo) (hne : l ≠ []) :
  ∃ k, ∃ h : k < ids.length, ids[k] = (if a ∈ l.map (·.fId) then a else nxI (l.map (·.fId)) a) ∧
    gg ⟨mo, flv ids sh lf, a, gr⟩ l = ((loopF (gg.loop3 ⟨mo, flv ids sh lf, a, gr⟩ l) (0, (k : Int), a, (if a ∈ l.map (·.fId) then gr else false), flv ids sh (lfZ l lf))).bind fun f => flC f fun (v3 : Int × Bool × List Td) =>
        need ((lenL v3.2.2) = (lenL (flv ids sh lf))) <|
        some ((Te.mk mo v3.2.2 v3.1 v3.2.1), 0, false)) := by
 have hnd : ids.Nodup := hr.imp fun h => by omega
 have hn : (l.map (·.fId)).Nodup := hnd.sublist hsub
 have hl : l.length ≤ 1000 := by have := hsub.length_le; simp only [List.length_map] at this; omega
 have hnn := szOf_nn hn (fun h hh => (hv h hh).1)
 have hsz : ∀ id, gI ⟨mo, flv ids sh (lfZ l lf), a, gr⟩ l id = some (szOf l id) := rsize_ok hn (by omega) hv
 have hL : lenL (flv ids sh (lfZ l lf)) = lenL (flv ids sh lf) := by rw [flv_lenL, flv_lenL]
 obtain ⟨k2, hk2, _, e2⟩ := rafter_ok (s := ⟨mo, flv ids sh (lfZ l lf), a, gr⟩) rfl hr (by omega) hsub (by omega) hv hne 0
 have hz := rzero_ok (x := ⟨mo, flv ids sh lf, a, gr⟩) rfl rfl hr hi hsub hv
 have hstart : gg ⟨mo, flv ids sh lf, a, gr⟩ l = gg ⟨mo, flv ids sh lf, a, gr⟩ l := rfl
 rcases rfind_ok (s := ⟨mo, flv ids sh (lfZ l lf), a, gr⟩) rfl (by omega) a with ⟨k, hk, ek, ef⟩ | ⟨hno, ef⟩
 ·by_cases hm : a ∈ l.map (·.fId)
  ·refine ⟨k, hk, by rw [if_pos hm]; exact ek, ?_⟩
   unfold gg
   rw [Lf (appB_0 _ (by rw [flv_len]; omega) (by omega)), hz]
   simp only [Ld, flC_go]
   rw [Lf hL, e2]
   simp only [Ld]
   rw [ltI_f (by omega), cond_false, Lf hL, ef]
   simp only [Ld]
   rw [ltI_f (by omega), Lf (under_of hL), hsz, Lf (some_u' _), getD_so, ltI_f (by have := (hnn a).2 hm; omega), if_pos hm]
   rfl
  ·obtain ⟨k3, hk3, e3, e4⟩ := rafter_ok (s := ⟨mo, flv ids sh (lfZ l lf), a, gr⟩) rfl hr (by omega) hsub (by omega) hv hne a
   refine ⟨k3, hk3, by rw [if_neg hm]; exact e3, ?_⟩
   unfold gg
   rw [Lf (appB_0 _ (by rw [flv_len]; omega) (by omega)), hz]
   simp only [Ld, flC_go]
   rw [Lf hL, e2]
   simp only [Ld]
   rw [ltI_f (by omega), cond_false, Lf hL, ef]
   simp only [Ld]
   have hneg : szOf l a < 0 := by have := mt (hnn a).1 hm; omega
   rw [ltI_f (by omega), Lf (under_of hL), hsz, Lf (some_u' _), getD_so, ltI_t hneg, Lf hL, e4, if_neg hm]
   rfl
 ·have hm : a ∉ l.map (·.fId) := fun q => hno (hsub.subset q)
  obtain ⟨k3, hk3, e3, e4⟩ := rafter_ok (s := ⟨mo, flv ids sh (lfZ l lf), a, gr⟩) rfl hr (by omega) hsub (by omega) hv hne a
  refine ⟨k3, hk3, by rw [if_neg hm]; exact e3, ?_⟩
  unfold gg
  rw [Lf (appB_0 _ (by rw [flv_len]; omega) (by omega)), hz]
  simp only [Ld, flC_go]
  rw [Lf hL, e2]
  simp only [Ld]
  rw [ltI_f (by omega), cond_false, Lf hL, ef]
  simp only [Ld]
  rw [ltI_t (by omega), Lf (under_of hL), hsz, Lf (some_u' _), Lf hL, e4, if_neg hm]
  rfl

theorem choose_both (hr : SR s mo sh lf a gr) (h1 : 1 ≤ mo) (hmo : mo ≤ 16777216) (hrise : ids.Pairwise (· < ·)) (hi : ids.length ≤ 1000) (hb : ∀ i ∈ ids, -9223372036854775808 ≤ i ∧ i ≤ 9223372036854775807)
    (hsub : (l.map (·.fId)).Sublist ids) (hv : ∀ h ∈ l, mo ≤ sh h.fId ∧ sh h.fId ≤ 16777216 ∧ 0 ≤ h.fj ∧ h.fj ≤ mo) (hlf : LfOk mo lf a gr) (hne : l ≠ []) :
    ∃ a' s' lf', gf s l = some (a', true, s') ∧ gg ⟨mo, flv ids sh lf, a, gr⟩ l = some (⟨mo, flv ids sh lf', a', true⟩, a', true) ∧ SR s' mo sh lf' a' true ∧
      a' ∈ l.map (·.fId) ∧ szOf l a' ≤ lf' a' ∧ LfOk mo lf' a' true ∧ (∀ y, y ∉ l.map (·.fId) → lf' y = 0) := by
  have hlr : (l.map (·.fId)).Pairwise (· < ·) := hrise.sublist hsub
  have hnd : (l.map (·.fId)).Nodup := hlr.imp fun h => by omega
  have hl : l.length ≤ 1000 := by have := hsub.length_le; simp only [List.length_map] at this; omega
  have hne' : l.map (·.fId) ≠ [] := by simpa using hne
  have hvs : ∀ h ∈ l, 0 ≤ h.fj ∧ h.fj ≤ mo := fun h hh => ⟨(hv h hh).2.2.1, (hv h hh).2.2.2⟩
  have hlf9 : ∀ y, lf y ≤ 1000000000 := fun y => by have := (hlf y).2; omega
  have hZ : ∀ y, 0 ≤ lfZ l lf y ∧ lfZ l lf y ≤ 1000000000 := fun y => by
    unfold lfZ
    split
    · exact ⟨(hlf y).1, hlf9 y⟩
    · omega
  have hshs : ∀ y, y ∈ l.map (·.fId) → mo ≤ sh y ∧ sh y ≤ 16777216 := fun y hy => by
    obtain ⟨h, hh, rfl⟩ := List.mem_map.1 hy
    exact ⟨(hv h hh).1, (hv h hh).2.1⟩
  have hsle : ∀ y, szOf l y ≤ mo := fun y => by
    by_cases hy : y ∈ l.map (·.fId)
    · obtain ⟨h, hh, rfl⟩ := List.mem_map.1 hy
      rw [szOf_mem hnd hh]; exact (hvs h hh).2
    · rw [szOf_no hy]; omega
  obtain ⟨a0, hga⟩ : ∃ a0, (if a ∈ l.map (·.fId) then a else nxI (l.map (·.fId)) a) = a0 := ⟨_, rfl⟩
  obtain ⟨g0, hgg⟩ : ∃ g0, (if a ∈ l.map (·.fId) then gr else false) = g0 := ⟨_, rfl⟩
  have hch : ∃ sz s', (⟨a0, sz⟩ : Hd) ∈ l ∧
      ((sz ≤ (if g0 = true then lfZ l lf else setF (lfZ l lf) a0 (lfZ l lf a0 + sh a0)) a0 ∧ gf s l = some (a0, true, s') ∧ SR s' mo sh (if g0 = true then lfZ l lf else setF (lfZ l lf) a0 (lfZ l lf a0 + sh a0)) a0 true) ∨
       (g0 = true ∧ ¬ sz ≤ (if g0 = true then lfZ l lf else setF (lfZ l lf) a0 (lfZ l lf a0 + sh a0)) a0 ∧ gf s l = some (nxI (l.map (·.fId)) a0, true, s') ∧
        SR s' mo sh (setF (if g0 = true then lfZ l lf else setF (lfZ l lf) a0 (lfZ l lf a0 + sh a0)) (nxI (l.map (·.fId)) a0) ((if g0 = true then lfZ l lf else setF (lfZ l lf) a0 (lfZ l lf a0 + sh a0)) (nxI (l.map (·.fId)) a0) + sh (nxI (l.map (·.fId)) a0))) (nxI (l.map (·.fId)) a0) true)) := by
    subst hga hgg
    exact choose_ok hr (l := l) (by omega) (by omega) (fun h hh => by
      obtain ⟨v1, v2, v3, v4⟩ := hv h hh
      exact ⟨v1, by omega, (hlf _).1, hlf9 _, by omega, v3, v4⟩) hlr hne (fun h hh => hb _ (hsub.subset (List.mem_map.2 ⟨h, hh, rfl⟩)))
      (nxI (l.map (·.fId))) (fun y _ => ⟨after_nx hlr hne' (by simp; omega) y, nxI_mem hne' y⟩)
  obtain ⟨k, hk, ek, est⟩ := rstart_ok (mo := mo) (sh := sh) (lf := lf) (a := a) (gr := gr) hrise hi hsub hvs hne
  rw [hga] at ek
  rw [hgg] at est
  have ha0 : a0 ∈ l.map (·.fId) := by
    rw [← hga]
    split
    · assumption
    · exact nxI_mem hne' a
  have hgt : g0 = true → a0 = a ∧ gr = true := fun q => by
    by_cases hm : a ∈ l.map (·.fId)
    · rw [if_pos hm] at hgg hga; exact ⟨hga.symm, by rw [hgg, q]⟩
    · rw [if_neg hm] at hgg; rw [← hgg] at q; cases q
  have hle0 : g0 = false → lfZ l lf a0 ≤ mo := fun q => by
    unfold lfZ
    rw [if_pos ha0]
    rcases (hlf a0).2 with h | ⟨h2, h3, _⟩
    · exact h
    · exfalso
      have hm : a ∈ l.map (·.fId) := h2 ▸ ha0
      rw [if_pos hm, h3] at hgg
      rw [← hgg] at q; cases q
  have hZle : ∀ y, y ≠ a0 → lfZ l lf y ≤ mo := fun y hy => by
    unfold lfZ
    split
    · rename_i hm
      rcases (hlf y).2 with h | ⟨h2, _, _⟩
      · exact h
      · exfalso
        subst h2
        rw [if_pos hm] at hga
        exact hy hga
    · omega
  obtain ⟨sz, s', hmem, hcase⟩ := hch
  have hsz : sz = szOf l a0 := (szOf_mem hnd hmem).symm
  subst hsz
  have hs0 := hshs a0 ha0
  subst ek
  obtain ⟨k', hk', e1, e2⟩ := rround_ok (x := ⟨mo, flv ids sh lf, a, gr⟩) rfl rfl hrise hi hsub hvs hne 0 k (by omega) hk a g0 (lfZ l lf) (hZ _) (by omega)
  rcases hcase with ⟨hc, q1, q2⟩ | ⟨hg, hc, q1, q2⟩
  · refine ⟨_, s', _, q1, ?_, q2, ha0, hc, fun y => ?_, fun y hy => ?_⟩
    · have hc' : szOf l ids[k] ≤ (if g0 = true then lfZ l lf else setF (lfZ l lf) ids[k] (lfZ l lf ids[k] + sh ids[k])) ids[k] := hc
      rw [if_pos hc'] at e2
      rw [est, show (0 : Int) = ((0 : Nat) : Int) from rfl, Lq e2]
      rfl
    · by_cases hgb : g0 = true
      · simp only [if_pos hgb]
        refine ⟨(hZ y).1, ?_⟩
        by_cases hy : y = ids[k]
        · obtain ⟨h2, h3⟩ := hgt hgb
          subst hy
          unfold lfZ
          rw [if_pos ha0]
          rcases (hlf ids[k]).2 with h | ⟨_, _, h⟩
          · exact .inl h
          · exact .inr ⟨rfl, (by trivial), h⟩
        · exact .inl (hZle y hy)
      · simp only [if_neg hgb, setF]
        by_cases hy : y = ids[k]
        · rw [if_pos hy]
          have := hle0 (by simpa using hgb)
          have := (hZ ids[k]).1
          exact ⟨by omega, .inr ⟨hy, (by trivial), by omega⟩⟩
        · rw [if_neg hy]
          exact ⟨(hZ y).1, .inl (hZle y hy)⟩
    · have h0 : lfZ l lf y = 0 := by unfold lfZ; rw [if_neg hy]
      by_cases hgb : g0 = true
      · simp only [if_pos hgb]; exact h0
      · simp only [if_neg hgb, setF]
        rw [if_neg (by rintro rfl; exact hy ha0)]; exact h0
  · have hn1 := nxI_mem hne' ids[k]
    have hs1 := hshs _ hn1
    subst hg
    simp only [if_true] at hc q2 e2
    rw [if_neg hc] at e2
    obtain ⟨k2, hk2, _, e4⟩ := rround_ok (x := ⟨mo, flv ids sh lf, a, gr⟩) rfl rfl hrise hi hsub hvs hne 1 k' (by omega) hk' ids[k] false (lfZ l lf) (hZ _) (by rw [e1]; omega)
    simp only [Bool.false_eq_true, if_false] at e4
    rw [e1] at e4
    have hZk : lfZ l lf ids[k] ≤ mo := by have := hsle ids[k]; omega
    have hall : ∀ y, lfZ l lf y ≤ mo := fun y => by
      by_cases hy : y = ids[k]
      · rw [hy]; exact hZk
      · exact hZle y hy
    have hc2 : szOf l (nxI (l.map (·.fId)) ids[k]) ≤ setF (lfZ l lf) (nxI (l.map (·.fId)) ids[k]) (lfZ l lf (nxI (l.map (·.fId)) ids[k]) + sh (nxI (l.map (·.fId)) ids[k])) (nxI (l.map (·.fId)) ids[k]) := by
      simp only [setF, if_true]
      have := hsle (nxI (l.map (·.fId)) ids[k])
      have := (hZ (nxI (l.map (·.fId)) ids[k])).1
      omega
    rw [if_pos hc2] at e4
    refine ⟨_, s', _, q1, ?_, q2, hn1, hc2, fun y => ?_, fun y hy => ?_⟩
    · rw [est, show (0 : Int) = ((0 : Nat) : Int) from rfl, loop_go e2, Lq e4]
      rfl
    · simp only [setF]
      by_cases hy : y = nxI (l.map (·.fId)) ids[k]
      · rw [if_pos hy]
        have := hall (nxI (l.map (·.fId)) ids[k])
        have := (hZ (nxI (l.map (·.fId)) ids[k])).1
        exact ⟨by omega, .inr ⟨hy, (by trivial), by omega⟩⟩
      · rw [if_neg hy]
        exact ⟨(hZ y).1, .inl (hall y)⟩
    · have h0 : lfZ l lf y = 0 := by unfold lfZ; rw [if_neg hy]
      simp only [setF]
      rw [if_neg (by rintro rfl; exact hy hn1)]; exact h0
theorem choose_none (hr : SR s mo sh lf a gr) (hrise : ids.Pairwise (· < ·)) (hi : ids.length ≤ 1000) :
  ∃ s', gf s [] = some (0, false, s') ∧ gg ⟨mo, flv ids sh lf, a, gr⟩ [] = some (⟨mo, flv ids sh (fun _ => 0), a, false⟩, 0, false) ∧ SR s' mo sh (fun _ => 0) a false := by
 have hkn : gB s [] = some [] := known_ok s [] (fun h hh => by cases hh) (by simp) (by simp)
 refine ⟨Tp.mk s.fb s.fm (keepM (fun k1 => (bif (notB (hasM eqI k1 ([] : List (Int × Int)))) then false else true)) s.fp) s.fAt false, ?_, ?_, hr.mo, hr.sh, fun y => ?_, hr.at_, rfl, hr.shn, ?_⟩
 ·unfold gf
  rw [hkn]
  simp only [Ld]
  have e0 : sortL (keysM ([] : List (Int × Int))) = [] := sortL_of (.refl _) .nil
  rw [Lf (KeysB_of (fun x hx => by cases hx) (by simp [keysM])), e0, eqI_t (show lenL ([] : List Int) = 0 from rfl)]
  rfl
 ·have hz := rzero_ok (x := ⟨mo, flv ids sh lf, a, gr⟩) (l := []) rfl rfl hrise hi (List.nil_sublist _) (fun h hh => by cases hh)
  have e : lfZ [] lf = fun _ => 0 := by funext y; simp [lfZ]
  rw [e] at hz
  have hL : lenL (flv ids sh (fun _ => 0)) = lenL (flv ids sh lf) := by rw [flv_lenL, flv_lenL]
  unfold gg
  rw [Lf (appB_0 _ (by rw [flv_len]; omega) (by omega)), hz]
  simp only [Ld, flC_go]
  rw [Lf hL, rafter_none (s := ⟨mo, flv ids sh (fun _ => 0), a, gr⟩) rfl (by omega) 0]
  simp only [Ld]
  rw [ltI_t (by omega), cond_true, Lf hL]
 ·simp only
  rw [get_keep]
  rw [if_neg]
  simp [notB]
 ·simp only
  exact keep_nodup hr.lfn
theorem rtake_ok (hrise : ids.Pairwise (· < ·)) (hi : ids.length ≤ 1000) (ha : a ∈ ids) {n : Int} (h0 : 0 ≤ n) (h1 : n ≤ lf a) (h2 : lf a ≤ 4000000000) :
  gaA ⟨mo, flv ids sh lf, a, true⟩ n = some ⟨mo, flv ids sh (setF lf a (lf a - n)), a, true⟩ := by
 have hnd : ids.Nodup := hrise.imp fun h => by omega
 rcases rfind_ok (s := ⟨mo, flv ids sh lf, a, true⟩) rfl (by omega) a with ⟨k, hk, ek, ef⟩ | ⟨hno, ef⟩
 ·subst ek
  unfold gaA
  rw [ef]
  simp only [Ld]
  rw [ltI_f (by omega), ltI_f (by omega), flv_nth hk, Lf (under_of (flv_inb hk))]
  simp only
  rw [ltI_f (by omega)]
  simp only [notB_f', pickB, cond_false]
  rw [Lf (appB_0 _ (by rw [flv_len]; omega) (by omega)), Lf (flv_inb hk), Lf (flv_inb hk), subI_n (by omega) (by omega), flv_set hk hnd]
 ·exact absurd ha hno
end
def SRel (s : Tp) (x : RS) (mo : Int) (ids : List Int) : Prop := ∃ sh lf a gr, SR s mo sh lf a gr ∧ x = ⟨mo, flv ids sh lf, a, gr⟩ ∧ LfOk mo lf a gr ∧
 (∀ i ∈ ids, mo ≤ sh i ∧ sh i ≤ 16777216) ∧ (∀ i, i ∉ ids → sh i = 0 ∧ lf i = 0)

section
variable {s : Tp} {x : RS} {mo : Int} {ids : List Int}
theorem SRel.choose (h : SRel s x mo ids) (h1 : 1 ≤ mo) (hmo : mo ≤ 16777216) (hrise : ids.Pairwise (· < ·)) (hi : ids.length ≤ 1000) (hb : ∀ i ∈ ids, -9223372036854775808 ≤ i ∧ i ≤ 9223372036854775807)
  {l : List Hd} (hsub : (l.map (·.fId)).Sublist ids) (hv : ∀ h ∈ l, 0 ≤ h.fj ∧ h.fj ≤ mo) (hne : l ≠ []) :
  ∃ g s' x', g ∈ l ∧ gf s l = some (g.fId, true, s') ∧ gg x l = some (x', g.fId, true) ∧ SRel s' x' mo ids ∧
    ∃ s2 x2, gam s' g.fj = some s2 ∧ gaA x' g.fj = some x2 ∧ SRel s2 x2 mo ids := by
 obtain ⟨sh, lf, a, gr, hr, rfl, hlf, hsh, hoff⟩ := h
 obtain ⟨a', s', lf', e1, e2, hr', ha, hsz, hlf', hz⟩ := choose_both hr h1 hmo hrise hi hb hsub (fun h hh => ⟨(hsh _ (hsub.subset (List.mem_map.2 ⟨h, hh, rfl⟩))).1, (hsh _ (hsub.subset (List.mem_map.2 ⟨h, hh, rfl⟩))).2, hv h hh⟩) hlf hne
 obtain ⟨g, hg, rfl⟩ := List.mem_map.1 ha
 have hnd : (l.map (·.fId)).Nodup := (hrise.imp fun h => by omega : ids.Nodup).sublist hsub
 rw [szOf_mem hnd hg] at hsz
 have hg0 := hv g hg
 have hb' := hlf' g.fId
 refine ⟨g, s', _, hg, e1, e2, ⟨sh, lf', _, _, hr', rfl, hlf', hsh, fun i hi => ⟨(hoff i hi).1, hz i fun q => hi (hsub.subset q)⟩⟩, ?_⟩
 obtain ⟨s2, t1, t2⟩ := take_ok hr' (n := g.fj) hg0.1 hsz (by omega)
 refine ⟨s2, _, t1, rtake_ok hrise hi (hsub.subset ha) hg0.1 hsz (by omega), ⟨sh, _, _, _, t2, rfl, fun y => ?_, hsh, fun i hi => ⟨(hoff i hi).1, ?_⟩⟩⟩
 ·simp only [setF]
  by_cases hy : y = g.fId
  ·rw [if_pos hy]
   exact ⟨by omega, by
    rcases hb'.2 with h | ⟨_, _, h⟩
    ·exact .inl (by omega)
    ·exact .inr ⟨hy, (by trivial), by omega⟩⟩
  ·rw [if_neg hy]; simpa using hlf' y
 ·simp only [setF]
  rw [if_neg (by rintro rfl; exact hi (hsub.subset ha))]
  exact hz i fun q => hi (hsub.subset q)
theorem SRel.idle (h : SRel s x mo ids) (h1 : 1 ≤ mo) (hrise : ids.Pairwise (· < ·)) (hi : ids.length ≤ 1000) :
  ∃ s' x', gf s [] = some (0, false, s') ∧ gg x [] = some (x', 0, false) ∧ SRel s' x' mo ids := by
 obtain ⟨sh, lf, a, gr, hr, rfl, hlf, hsh, hoff⟩ := h
 obtain ⟨s', e1, e2, hr'⟩ := choose_none hr hrise hi
 exact ⟨s', _, e1, e2, sh, _, _, _, hr', rfl, fun y => ⟨Int.le_refl _, .inl (show (0 : Int) ≤ mo by omega)⟩, hsh, fun i hi => ⟨(hoff i hi).1, rfl⟩⟩
end
end Go.Proofs
