/- Deficit round robin, in plain words: what a choice comes to, and that no key stands twice. No condition. -/
import Derived.Test.YtpjplfnapgpfmaaGreatM06
import Derived.Test.YtpjplfnapgpfmaaGreatM05
namespace Go.Proofs
open Go.Ab
abbrev Hd := Tg

/-! ### A search by halves -/
theorem half {a : Int} (h0 : 0 ≤ a) (h1 : a < 4611686018427387904) : cvtI .i64 (shrI .u64 (cvtI .u64 a) 1) = a / 2 := by
 have e1 : cvtI .u64 a = a := by
  unfold cvtI
  rw [IntKind.wrap_u64]; omega
 have e2 : shrI .u64 a 1 = a / 2 := by
  unfold shrI
  have : (2 : Int) ^ (min (1 : Int).toNat IntKind.u64.bits) = 2 := by decide
  rw [this, Int.fdiv_eq_ediv_of_nonneg _ (by decide)]
 rw [e1, e2]
 exact wrap64_of (by omega) (by omega)

theorem less_ok (a b : Int) : gaN a b = some (decide (a < b)) := by
 unfold gaN gaD
 rw [neI_f rfl]
 simp only [Ld, getD_so]
 rw [Lf (show Under false true ((some (neI b b)).isSome = true) from fun h => by cases h)]
 simp [pickB, ltI, notB]

theorem nthI_get {l : List Int} {q : Nat} (h : q < l.length) : nthI l (q : Int) = l[q] := by
 simp [nthI, List.getD_eq_getElem?_getD, h]
theorem search_ok {l : List Int} (hs : l.Pairwise (· < ·)) (hl : l.length ≤ 1000000000) (x : Int) :
  ∃ k : Nat, k ≤ l.length ∧ (∀ (q : Nat) (h : q < l.length), q < k → l[q] < x) ∧ (∀ (q : Nat) (h : q < l.length), k ≤ q → x ≤ l[q]) ∧
    gc l x = some ((k : Int), decide (∃ h : k < l.length, l[k] = x)) := by
 obtain ⟨t, ht, k, hk, h1, h2, rfl⟩ := loop_ends (body := gc.loop1 l x)
  (fun s => ∃ i j : Nat, s = ((i : Int), (j : Int)) ∧ i ≤ j ∧ j ≤ l.length ∧ (∀ (q : Nat) (h : q < l.length), q < i → l[q] < x) ∧ (∀ (q : Nat) (h : q < l.length), j ≤ q → x ≤ l[q]))
  (fun t => ∃ k : Nat, k ≤ l.length ∧ (∀ (q : Nat) (h : q < l.length), q < k → l[q] < x) ∧ (∀ (q : Nat) (h : q < l.length), k ≤ q → x ≤ l[q]) ∧ t = .go (k : Int))
  (fun s => (s.2 - s.1).toNat) (by
   rintro s ⟨i, j, rfl, hij, hj, h1, h2⟩
   unfold gc.loop1
   simp only
   by_cases hlt : i < j
   ·have e0 : addI .i64 (i : Int) (j : Int) = ((i + j : Nat) : Int) := by rw [addI_n (by omega) (by omega)]; omega
    have e1 : cvtI .i64 (shrI .u64 (cvtI .u64 (addI .i64 (i : Int) (j : Int))) 1) = (((i + j) / 2 : Nat) : Int) := by
     rw [e0, half (by omega) (by omega)]; omega
    have hm : (i + j) / 2 < l.length := by omega
    rw [ltI_t (by omega), cond_true, Lf (show NonN 1 from by unfold NonN; decide), e1, Lf (show InB _ _ from ⟨by omega, by unfold lenL; omega⟩), nthI_get hm, less_ok]
    simp only [Ld]
    by_cases hx : l[(i + j) / 2] < x
    ·rw [decide_eq_true hx, cond_true]
     have e2 : addI .i64 (((i + j) / 2 : Nat) : Int) 1 = (((i + j) / 2 + 1 : Nat) : Int) := by rw [addI_n (by omega) (by omega)]; omega
     rw [e2]
     refine ⟨⟨_, _, rfl, by omega, hj, fun q hq hqi => ?_, h2⟩, by simp only; omega⟩
     rcases Nat.lt_or_ge q ((i + j) / 2) with h | h
     ·exact Int.lt_trans (List.pairwise_iff_getElem.1 hs q _ hq hm h) hx
     ·have : q = (i + j) / 2 := by omega
      subst this; exact hx
    ·rw [decide_eq_false hx, cond_false]
     refine ⟨⟨_, _, rfl, by omega, by omega, h1, fun q hq hqj => ?_⟩, by simp only; omega⟩
     rcases Nat.lt_or_ge ((i + j) / 2) q with h | h
     ·have := List.pairwise_iff_getElem.1 hs _ q hm hq h
      omega
     ·have : q = (i + j) / 2 := by omega
      subst this; omega
   ·rw [ltI_f (by omega), cond_false]
    exact ⟨i, by omega, h1, fun q hq hqi => h2 q hq (by omega), rfl⟩)
  (0, lenL l) ⟨0, l.length, rfl, by omega, by omega, fun q _ hq => by omega, fun q hq hq' => by omega⟩
 refine ⟨k, hk, h1, h2, ?_⟩
 unfold gc
 rw [ht]
 simp only [Ld, flC_go]
 have hI : Under (ltI (k : Int) (lenL l)) true (InB (k : Int) (lenL l)) := fun h => by
  rw [ltI_d] at h
  have := of_decide_eq_true h
  exact ⟨by omega, this⟩
 have hnan : ∀ y, gZ y = some false := fun y => by unfold gZ; rw [neI_f rfl]
 rw [Lf hI, Lf (under_of hI), hnan, hnan]
 rw [Lf (show Under _ false (Under _ true ((some false).isSome = true)) from fun _ _ => rfl)]
 simp only [getD_so]
 rw [Lf (show Under false true _ from fun h => by cases h)]
 congr 2
 by_cases hkl : k < l.length
 ·rw [ltI_t (by unfold lenL; omega), nthI_get hkl, eqI_d]
  by_cases hx : l[k] = x
  ·simp [pickB, hx, hkl]
  ·simp [pickB, hx, hkl]
 ·rw [ltI_f (by unfold lenL; omega)]
  simp [pickB, hkl]
theorem after_ok {l : List Int} (hs : l.Pairwise (· < ·)) (hn : 0 < l.length) (hl : l.length ≤ 1000000000) {x : Int} (c : Nat) (hc : c ≤ l.length) (h1 : ∀ (q : Nat) (h : q < l.length), q < c → l[q] ≤ x)
  (h2 : ∀ (q : Nat) (h : q < l.length), c ≤ q → x < l[q]) : gaH l x = some (nthI l ((c % l.length : Nat) : Int)) := by
 obtain ⟨k, hk, k1, k2, e⟩ := search_ok hs hl x
 unfold gaH
 rw [e]
 simp only [Ld]
 have hfin : ∀ v : Int, v = (c : Int) → (need (NonZ (lenL l)) (need (InB (remI v (lenL l)) (lenL l)) (some (nthI l (remI v (lenL l)))))) = some (nthI l ((c % l.length : Nat) : Int)) := by
  rintro v rfl
  have er : remI (c : Int) (lenL l) = ((c % l.length : Nat) : Int) := by
   unfold remI lenL
   rw [Int.tmod_eq_emod_of_nonneg (by omega)]
   omega
  have := Nat.mod_lt c hn
  rw [er, Lf (show NonZ (lenL l) from by unfold NonZ lenL; omega), Lf (show InB _ _ from ⟨by omega, by unfold lenL; omega⟩)]
 by_cases hf : ∃ h : k < l.length, l[k] = x
 ·obtain ⟨hkl, hkx⟩ := hf
  rw [decide_eq_true (⟨hkl, hkx⟩ : ∃ h : k < l.length, l[k] = x)]
  simp only [cond_true, Ld, flC_go]
  refine hfin _ ?_
  have : c = k + 1 := by
   rcases Nat.lt_trichotomy c (k + 1) with h | h | h
   ·have := h2 k hkl (by omega); omega
   ·exact h
   ·have a1 := h1 (k + 1) (by omega) h
    have a2 := List.pairwise_iff_getElem.1 hs k (k + 1) hkl (by omega) (by omega)
    omega
  rw [addI_n (by omega) (by omega)]; omega
 ·rw [decide_eq_false hf]
  simp only [cond_false, Ld, flC_go]
  refine hfin _ ?_
  have : c = k := by
   rcases Nat.lt_trichotomy c k with h | h | h
   ·have a1 := h2 c (by omega) (Nat.le_refl c)
    have a2 := k1 c (by omega) h
    omega
   ·exact h
   ·have a1 := h1 k (by omega) h
    have a2 := k2 k (by omega) (Nat.le_refl k)
    exact absurd ⟨by omega, by omega⟩ hf
  rw [this]

/-! ### Maps -/
theorem getM_t {k z : Int} {e : Int × Int} {r : List (Int × Int)} (h : k = e.1) : getM eqI k z (e :: r) = e.2 := by rw [getM, if_pos (eqI_t h)]
theorem getM_f {k z : Int} {e : Int × Int} {r : List (Int × Int)} (h : k ≠ e.1) : getM eqI k z (e :: r) = getM eqI k z r := by rw [getM, if_neg (by rw [eqI_f h]; decide)]
theorem setM_t {k v : Int} {e : Int × Int} {r : List (Int × Int)} (h : k = e.1) : setM eqI k v (e :: r) = (k, v) :: r := by rw [setM, if_pos (eqI_t h)]
theorem setM_f {k v : Int} {e : Int × Int} {r : List (Int × Int)} (h : k ≠ e.1) : setM eqI k v (e :: r) = e :: setM eqI k v r := by rw [setM, if_neg (by rw [eqI_f h]; decide)]
theorem get_set (k k' v z : Int) : ∀ m : List (Int × Int), getM eqI k z (setM eqI k' v m) = if k = k' then v else getM eqI k z m
 | [] => by
   show getM eqI k z [(k', v)] = _
   by_cases h : k = k'
   ·rw [getM_t h, if_pos h]
   ·rw [getM_f h, if_neg h]
 | e :: r => by
   by_cases h' : k' = e.1
   ·rw [setM_t h']
    by_cases h : k = k'
    ·rw [getM_t h, if_pos h]
    ·rw [getM_f h, if_neg h, getM_f (by rw [← h']; exact h)]
   ·rw [setM_f h']
    by_cases h : k = e.1
    ·rw [getM_t h, getM_t h, if_neg (fun q => h' (by rw [← q]; exact h))]
    ·rw [getM_f h, getM_f h, get_set k k' v z r]
theorem get_keep (p : Int → Bool) (k z : Int) : ∀ m : List (Int × Int), getM eqI k z (keepM p m) = if p k = true then getM eqI k z m else z
 | [] => by simp [keepM, getM]
 | e :: r => by
   have ih := get_keep p k z r
   unfold keepM at ih ⊢
   by_cases h : k = e.1
   ·subst h
    by_cases hp : p e.1 = true
    ·rw [List.filter_cons, if_pos hp, getM_t rfl, if_pos hp, getM_t rfl]
    ·rw [List.filter_cons, if_neg hp, ih, if_neg hp, if_neg hp]
   ·rw [List.filter_cons, getM_f h]
    split
    ·rw [getM_f h, ih]
    ·rw [ih]
theorem del_sub (k : Int) : ∀ m : List (Int × Int), (delM eqI k m).Sublist m
 | [] => by simp
 | e :: r => by
   by_cases h' : k = e.1
   ·rw [delM, if_pos (eqI_t h')]; exact List.sublist_cons_self _ _
   ·rw [delM, if_neg (by rw [eqI_f h']; decide)]; exact (del_sub k r).cons_cons _
theorem get_del {k k' z : Int} (h : k ≠ k') : ∀ m : List (Int × Int), getM eqI k z (delM eqI k' m) = getM eqI k z m
 | [] => rfl
 | e :: r => by
   by_cases h' : k' = e.1
   ·rw [delM, if_pos (eqI_t h'), getM, if_neg (by rw [eqI_f (by rw [← h']; exact h)]; decide)]
   ·rw [delM, if_neg (by rw [eqI_f h']; decide), getM, getM, get_del h r]

theorem set_mem {x k v : Int} : ∀ {m : List (Int × Int)}, x ∈ keysM (setM eqI k v m) → x = k ∨ x ∈ keysM m
 | [], h => by simp [keysM] at h; exact .inl h
 | e :: r, h => by
   by_cases h' : k = e.1
   ·rw [setM_t h'] at h
    simp only [keysM, List.map_cons, List.mem_cons] at h ⊢
    rcases h with h | h
    ·exact .inl h
    ·exact .inr (.inr h)
   ·rw [setM_f h'] at h
    simp only [keysM, List.map_cons, List.mem_cons] at h ⊢
    rcases h with h | h
    ·exact .inr (.inl h)
    ·rcases set_mem h with h | h
     ·exact .inl h
     ·exact .inr (.inr h)
theorem set_nodup {k v : Int} : ∀ {m : List (Int × Int)}, (keysM m).Nodup → (keysM (setM eqI k v m)).Nodup
 | [], _ => by simp [keysM]
 | e :: r, h => by
   simp only [keysM, List.map_cons, List.nodup_cons] at h
   by_cases h' : k = e.1
   ·rw [setM_t h']
    simp only [keysM, List.map_cons, List.nodup_cons]
    rw [h']; exact h
   ·rw [setM_f h']
    simp only [keysM, List.map_cons, List.nodup_cons]
    refine ⟨fun q => ?_, set_nodup h.2⟩
    rcases set_mem q with q | q
    ·exact h' q.symm
    ·exact h.1 q
theorem keep_nodup {p : Int → Bool} {m : List (Int × Int)} (h : (keysM m).Nodup) : (keysM (keepM p m)).Nodup :=
 h.sublist ((List.filter_sublist).map _)
theorem del_nodup {k : Int} : ∀ {m : List (Int × Int)}, (keysM m).Nodup → (keysM (delM eqI k m)).Nodup ∧ k ∉ keysM (delM eqI k m)
 | [], _ => by simp [keysM]
 | e :: r, h => by
   have h0 := h
   simp only [keysM, List.map_cons, List.nodup_cons] at h
   by_cases h' : k = e.1
   ·rw [delM, if_pos (eqI_t h')]
    exact ⟨h.2, h' ▸ h.1⟩
   ·rw [delM, if_neg (by rw [eqI_f h']; decide)]
    have ih := del_nodup (k := k) h.2
    simp only [keysM, List.map_cons, List.nodup_cons, List.mem_cons, not_or]
    refine ⟨⟨fun q => h.1 ?_, ih.1⟩, h', ih.2⟩
    have : (delM eqI k r).Sublist r := del_sub k r
    exact (this.map _).subset q

/-! ### The heads that count -/
theorem known_ok (s : Tp) : ∀ (l : List Hd), (∀ h ∈ l, 0 < getM eqI h.fId 0 s.fm ∧ 0 ≤ h.fj ∧ h.fj ≤ s.fb) → (l.map (·.fId)).Nodup → l.length ≤ 1000000000 →
  gB s l = some (l.map fun h => (h.fId, h.fj)) := by
 intro l hv hd hl
 obtain ⟨t, ht, rfl⟩ := loop_ends (body := gB.loop1 s l)
  (fun q => ∃ i : Nat, i ≤ l.length ∧ q = ((i : Int), (l.take i).map fun h => (h.fId, h.fj)))
  (fun t => t = .go (l.map fun h => (h.fId, h.fj))) (fun q => l.length - q.1.toNat) (by
   rintro q ⟨i, hi, rfl⟩
   unfold gB.loop1
   simp only
   by_cases hlt : i < l.length
   ·have hnth : nthI l (i : Int) = l[i] := by simp [nthI, List.getD_eq_getElem?_getD, hlt]
    obtain ⟨v1, v2, v3⟩ := hv l[i] (List.getElem_mem hlt)
    rw [ltI_t (by unfold lenL; omega), cond_true, Lf (show InB _ _ from ⟨by omega, by unfold lenL; omega⟩), hnth, ltI_t v1, leI_t v2, leI_t v3]
    simp only [pickB, cond_true]
    refine ⟨⟨i + 1, by omega, ?_⟩, by simp only; rw [addI_n (by omega) (by omega)]; omega⟩
    rw [addI_n (by omega) (by omega), List.take_succ_eq_append_getElem hlt, List.map_append, List.map_cons, List.map_nil, setM_no]
    ·rfl
    ·intro hmem
     obtain ⟨e, he, hee⟩ := List.mem_map.1 hmem
     obtain ⟨h', hh', rfl⟩ := List.mem_map.1 he
     obtain ⟨j, hj, hjj⟩ := List.mem_iff_getElem.1 hh'
     have hj' : j < i := by simp only [List.length_take] at hj; omega
     rw [List.getElem_take] at hjj
     have hp := List.pairwise_iff_getElem.1 hd j i (by simp; omega) (by simpa using hlt) hj'
     simp only [List.getElem_map] at hp
     exact hp (by rw [hjj]; exact hee)
   ·rw [ltI_f (by unfold lenL; omega), cond_false]
    have : i = l.length := by omega
    subst this
    show _ = _
    rw [List.take_length])
  (0, []) ⟨0, by omega, rfl⟩
 unfold gB
 rw [ht]
 rfl
structure SR (s : Tp) (mo : Int) (sh lf : Int → Int) (at' : Int) (gr : Bool) : Prop where
 mo : s.fb = mo
 sh : ∀ x, getM eqI x 0 s.fm = sh x
 lf : ∀ x, getM eqI x 0 s.fp = lf x
 at_ : s.fAt = at'
 gr : s.fg = gr
 shn : (keysM s.fm).Nodup
 lfn : (keysM s.fp).Nodup

theorem keys_heads (l : List Hd) : keysM (l.map fun h => (h.fId, h.fj)) = l.map (·.fId) := by simp [keysM, Function.comp_def]

def setF (f : Int → Int) (k v : Int) : Int → Int := fun x => if x = k then v else f x
theorem choose_ok {s : Tp} {mo : Int} {sh lf : Int → Int} {a : Int} {gr : Bool} (hr : SR s mo sh lf a gr) {l : List Hd} (_hmo : mo ≤ 1000000000) (hl : l.length ≤ 1000000)
    (hv : ∀ h ∈ l, mo ≤ sh h.fId ∧ sh h.fId ≤ 1000000000 ∧ 0 ≤ lf h.fId ∧ lf h.fId ≤ 1000000000 ∧ 0 < sh h.fId ∧ 0 ≤ h.fj ∧ h.fj ≤ mo) (hs : (l.map (·.fId)).Pairwise (· < ·)) (hne : l ≠ [])
    (hb : ∀ h ∈ l, -9223372036854775808 ≤ h.fId ∧ h.fId ≤ 9223372036854775807)
    (nx : Int → Int) (hnx : ∀ x, (x = a ∨ x ∈ l.map (·.fId)) → gaH (l.map (·.fId)) x = some (nx x) ∧ nx x ∈ l.map (·.fId)) :
    let a0 := if a ∈ l.map (·.fId) then a else nx a
    let g0 := if a ∈ l.map (·.fId) then gr else false
    let lf0 : Int → Int := fun x => if x ∈ l.map (·.fId) then lf x else 0
    let lf1 := if g0 = true then lf0 else setF lf0 a0 (lf0 a0 + sh a0)
    ∃ sz s', (⟨a0, sz⟩ : Hd) ∈ l ∧ 
      ((sz ≤ lf1 a0 ∧ gf s l = some (a0, true, s') ∧ SR s' mo sh lf1 a0 true) ∨
       (g0 = true ∧ ¬ sz ≤ lf1 a0 ∧ gf s l = some (nx a0, true, s') ∧ SR s' mo sh (setF lf1 (nx a0) (lf1 (nx a0) + sh (nx a0))) (nx a0) true)) := by
  intro a0 g0 lf0 lf1
  have hnd : (l.map (·.fId)).Nodup := hs.imp fun h => by omega
  have hlen : 0 < l.length := List.length_pos_iff.2 hne
  have hkn : gB s l = some (l.map fun h => (h.fId, h.fj)) := known_ok s l (fun h hh => by
    obtain ⟨v1, v2, v3, v4, v5, v6, v7⟩ := hv h hh
    rw [hr.sh, hr.mo]
    exact ⟨v5, v6, v7⟩) hnd (by omega)
  have hsort : sortL (l.map (·.fId)) = l.map (·.fId) := sortL_of (.refl _) (hs.imp fun h => by omega)
  have hsz : ∀ h ∈ l, getM eqI h.fId 0 (l.map fun h => (h.fId, h.fj)) = h.fj := fun h hh =>
    getM_of (by rw [keys_heads]; exact hnd) (List.mem_map.2 ⟨h, hh, rfl⟩)
  have hhas : ∀ x, hasM eqI x (l.map fun h => (h.fId, h.fj)) = decide (x ∈ l.map (·.fId)) := fun x => by
    by_cases hx : x ∈ l.map (·.fId)
    · rw [hasM_t (by rw [keys_heads]; exact hx), decide_eq_true hx]
    · rw [hasM_f (by rw [keys_heads]; exact hx), decide_eq_false hx]
  have hlf0 : ∀ x, getM eqI x 0 (keepM (fun k1 => (bif (notB (hasM eqI k1 (l.map fun h => (h.fId, h.fj)))) then false else true)) s.fp) = lf0 x := fun x => by
    rw [get_keep, hhas, hr.lf]
    by_cases hx : x ∈ l.map (·.fId)
    · rw [decide_eq_true hx]
      simp only [lf0, if_pos hx]; rfl
    · rw [decide_eq_false hx]
      simp only [lf0, if_neg hx]; rfl
  have hma0 : a0 ∈ l.map (·.fId) := by
    by_cases hx : a ∈ l.map (·.fId)
    · simpa only [a0, if_pos hx] using hx
    · simpa only [a0, if_neg hx] using (hnx a (.inl rfl)).2
  obtain ⟨h0, hh0, hh0a⟩ := List.mem_map.1 hma0
  obtain ⟨v1, v2, v3, v4, v5, v6, v7⟩ := hv h0 hh0
  have hsz0 : getM eqI a0 0 (l.map fun h => (h.fId, h.fj)) = h0.fj := by rw [← hh0a]; exact hsz h0 hh0
  -- the way to the loop
  have hway : gf s l = (loopF (gf.loop3 s (l.map fun h => (h.fId, h.fj))) (a0, g0, keepM (fun k1 => (bif (notB (hasM eqI k1 (l.map fun h => (h.fId, h.fj)))) then false else true)) s.fp)).bind fun f => flC f fun (_ : Unit) => none := by
    unfold gf
    rw [hkn]
    simp only [Ld]
    rw [keys_heads, Lf (KeysB_of (fun x hx => by obtain ⟨h, hh, rfl⟩ := List.mem_map.1 hx; exact hb h hh) (by simp; omega)), hsort, eqI_f (by unfold lenL; simp; omega), cond_false, hhas, hr.at_]
    by_cases hx : a ∈ l.map (·.fId)
    · rw [decide_eq_true hx]
      simp only [notB_f', cond_false, Ld, flC_go, a0, g0, if_pos hx, hr.gr]
    · rw [decide_eq_false hx]
      simp only [notB_t', cond_true, (hnx a (.inl rfl)).1, Ld, flC_go, a0, g0, if_neg hx]
  -- a round
  have hround : ∀ (x : Int) (g : Bool) (m : List (Int × Int)) (f : Int → Int), (∀ y, getM eqI y 0 m = f y) → (keysM m).Nodup → x ∈ l.map (·.fId) → 0 ≤ f x → f x ≤ 1000000000 →
      ∃ m', (keysM m').Nodup ∧ (∀ y, getM eqI y 0 m' = (if g = true then f else setF f x (f x + sh x)) y) ∧
        gf.loop3 s (l.map fun h => (h.fId, h.fj)) (x, g, m) = if getM eqI x 0 (l.map fun h => (h.fId, h.fj)) ≤ (if g = true then f else setF f x (f x + sh x)) x
          then some (.out (.out (x, true, Tp.mk s.fb s.fm m' x true))) else some (.go (nx x, false, m')) := by
    intro x g m f hf hnm hx hf0 hf1
    obtain ⟨h, hh, rfl⟩ := List.mem_map.1 hx
    obtain ⟨w1, w2, w3, w4, w5, w6, w7⟩ := hv h hh
    cases g with
    | true =>
      refine ⟨m, hnm, hf, ?_⟩
      unfold gf.loop3
      simp only [notB_f', cond_false, Ld, flC_go, if_true]
      rw [keys_heads, hsort, (hnx _ (.inr hx)).1, hf, leI_d]
      by_cases hc : getM eqI h.fId 0 (l.map fun h => (h.fId, h.fj)) ≤ f h.fId
      · simp only [decide_eq_true hc, cond_true, if_pos hc]
      · simp only [decide_eq_false hc, cond_false, if_neg hc, Ld]
    | false =>
      refine ⟨setM eqI h.fId (f h.fId + sh h.fId) m, set_nodup hnm, fun y => ?_, ?_⟩
      · rw [get_set, hf]
        simp [setF]
      · unfold gf.loop3
        simp only [notB_t', cond_true, Ld, flC_go, Bool.false_eq_true, if_false]
        rw [keys_heads, hsort, (hnx _ (.inr hx)).1, hf, hr.sh, addI_n (by omega) (by omega), get_set, if_pos rfl, leI_d]
        have e : setF f h.fId (f h.fId + sh h.fId) h.fId = f h.fId + sh h.fId := by simp [setF]
        rw [e]
        by_cases hc : getM eqI h.fId 0 (l.map fun h => (h.fId, h.fj)) ≤ f h.fId + sh h.fId
        · simp only [decide_eq_true hc, cond_true, if_pos hc]
        · simp only [decide_eq_false hc, cond_false, if_neg hc, Ld]
  have hlfr : ∀ x, x ∈ l.map (·.fId) → 0 ≤ lf0 x ∧ lf0 x ≤ 1000000000 := fun x hx => by
    obtain ⟨h, hh, rfl⟩ := List.mem_map.1 hx
    obtain ⟨w1, w2, w3, w4, w5, w6, w7⟩ := hv h hh
    simp only [lf0, if_pos hx]
    exact ⟨w3, w4⟩
  obtain ⟨m1, hn1, hm1, hb1⟩ := hround a0 g0 _ lf0 hlf0 (keep_nodup hr.lfn) hma0 (hlfr _ hma0).1 (hlfr _ hma0).2
  rw [hsz0] at hb1
  refine ⟨h0.fj, ?_⟩
  by_cases hc : h0.fj ≤ (if g0 = true then lf0 else setF lf0 a0 (lf0 a0 + sh a0)) a0
  · refine ⟨Tp.mk s.fb s.fm m1 a0 true, by rw [← hh0a]; exact hh0, .inl ⟨hc, ?_, ⟨hr.mo, hr.sh, hm1, rfl, rfl, hr.shn, hn1⟩⟩⟩
    rw [hway, loopF_eq, hb1, if_pos hc]
    rfl
  · have hg : g0 = true := by
      cases hg : g0 with
      | true => rfl
      | false =>
        exfalso
        rw [hg] at hc
        simp only [Bool.false_eq_true, if_false, setF, if_true] at hc
        have := (hlfr _ hma0).1
        rw [hh0a] at v1
        omega
    have hn0 := hnx a0 (.inr hma0)
    obtain ⟨h2, hh2, hh2a⟩ := List.mem_map.1 hn0.2
    obtain ⟨w1, w2, w3, w4, w5, w6, w7⟩ := hv h2 hh2
    have hlf1 : lf1 = lf0 := by simp only [lf1, hg, if_true]
    have hm1' : ∀ y, getM eqI y 0 m1 = lf0 y := fun y => by rw [hm1, hg]; rfl
    obtain ⟨m2, hn2, hm2, hb2⟩ := hround (nx a0) false m1 lf0 hm1' hn1 hn0.2 (hlfr _ hn0.2).1 (hlfr _ hn0.2).2
    have hsz2 : getM eqI (nx a0) 0 (l.map fun h => (h.fId, h.fj)) = h2.fj := by rw [← hh2a]; exact hsz h2 hh2
    simp only [Bool.false_eq_true, if_false] at hm2 hb2
    rw [hsz2] at hb2
    have hc2 : h2.fj ≤ setF lf0 (nx a0) (lf0 (nx a0) + sh (nx a0)) (nx a0) := by
      have := (hlfr _ hn0.2).1
      rw [hh2a] at w1
      simp only [setF, if_true]
      omega
    refine ⟨Tp.mk s.fb s.fm m2 (nx a0) true, by rw [← hh0a]; exact hh0, .inr ⟨hg, hc, ?_, ?_⟩⟩
    · rw [hway, loopF_eq, hb1, if_neg hc]
      simp only
      rw [loopF_eq, hb2, if_pos hc2]
      rfl
    · rw [hlf1]
      exact ⟨hr.mo, hr.sh, hm2, rfl, rfl, hr.shn, hn2⟩

theorem take_ok {s : Tp} {mo : Int} {sh lf : Int → Int} {a : Int} (hr : SR s mo sh lf a true) {n : Int} (h0 : 0 ≤ n) (h1 : n ≤ lf a) (h2 : lf a ≤ 4000000000) : ∃ s', gam s n = some s' ∧ SR s' mo sh (setF lf a (lf a - n)) a true := by
 refine ⟨Tp.mk s.fb s.fm (setM eqI s.fAt (subI .i64 (getM eqI s.fAt 0 s.fp) n) s.fp) s.fAt s.fg, ?_, hr.mo, hr.sh, fun x => ?_, hr.at_, hr.gr, hr.shn, set_nodup hr.lfn⟩
 ·unfold gam
  rw [hr.gr, leI_t h0, hr.at_, hr.lf, leI_t h1]
  rfl
 ·simp only
  rw [get_set, hr.at_, hr.lf, hr.lf, subI_n (by omega) (by omega)]
  rfl

theorem add_ok {s : Tp} {mo : Int} {sh lf : Int → Int} {a : Int} {g : Bool} (hr : SR s mo sh lf a g) {id q : Int} (h0 : mo ≤ q) (h1 : q ≤ 16777216) (h2 : ¬ 0 < sh id) : ∃ s', gaq s id q = some (0, s') ∧ SR s' mo (setF sh id q) lf a g := by
 refine ⟨Tp.mk s.fb (setM eqI id q s.fm) s.fp s.fAt s.fg, ?_, hr.mo, fun x => ?_, hr.lf, hr.at_, hr.gr, set_nodup hr.shn, hr.lfn⟩
 ·unfold gaq
  rw [hr.mo, hr.sh, ltI_f (by omega), ltI_f (by omega), ltI_f h2]
  rfl
 ·simp only
  rw [get_set, hr.sh]
  rfl

theorem new_ok {mo : Int} (h0 : 1 ≤ mo) (h1 : mo ≤ 16777216) : ∃ s, gaX mo = some (some s, 0) ∧ SR s mo (fun _ => 0) (fun _ => 0) 0 false := by
 refine ⟨Tp.mk mo [] [] 0 false, ?_, rfl, fun _ => rfl, fun _ => rfl, rfl, rfl, by simp [keysM], by simp [keysM]⟩
 unfold gaX
 rw [ltI_f (by omega), ltI_f (by omega)]
 rfl

theorem remove_ok {s : Tp} {mo : Int} {sh lf : Int → Int} {a : Int} {g : Bool} (hr : SR s mo sh lf a g) {id : Int} (h : sh id ≠ 0) :
  ∃ s', gF s id = some (0, s') ∧ SR s' mo (setF sh id 0) (setF lf id 0) a (if a = id then false else g) := by
 have h1 := del_nodup (k := id) hr.shn
 have h2 := del_nodup (k := id) hr.lfn
 refine ⟨Tp.mk s.fb (delM eqI id s.fm) (delM eqI id s.fp) s.fAt (if a = id then false else g), ?_, hr.mo, fun x => ?_, fun x => ?_, hr.at_, rfl, h1.1, h2.1⟩
 ·unfold gF
  rw [hr.sh, eqI_f h, cond_false, hr.at_, hr.gr]
  by_cases ha : a = id
  ·rw [eqI_t ha, if_pos ha]; rfl
  ·rw [eqI_f ha, if_neg ha]; rfl
 ·simp only [setF]
  by_cases hx : x = id
  ·rw [if_pos hx, hx, getM_no h1.2]
  ·rw [if_neg hx, get_del hx, hr.sh]
 ·simp only [setF]
  by_cases hx : x = id
  ·rw [if_pos hx, hx, getM_no h2.2]
  ·rw [if_neg hx, get_del hx, hr.lf]
end Go.Proofs
