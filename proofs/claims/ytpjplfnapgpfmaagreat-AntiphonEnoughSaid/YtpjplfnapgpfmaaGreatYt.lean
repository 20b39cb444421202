/- The reference's schedule over a row of flows: the same choice. No condition. -/
import Derived.Test.YtpjplfnapgpfmaaGreatYa
import Derived.Test.YtpjplfnapgpfmaaGreatYs
import Derived.Test.YtpjplfnapgpfmaaGreatM06
namespace Go.Proofs
open Go.Ab
abbrev RF := Td
abbrev RS := Te

/-! ### Where a number stands -/
theorem some_u' {α : Type} {b v : Bool} (x : α) : Under b v ((some x).isSome = true) := fun _ => rfl
theorem nthI_map {α β : Type} [Inhabited α] [Inhabited β] (g : α → β) {l : List α} {k : Nat} (h : k < l.length) : nthI (l.map g) (k : Int) = g l[k] := by
 rw [nthI_n (by simpa using h)]; simp
theorem scan_ok {T : Type} {N : Nat} {body : Int → Option (Fl Int (Fl Unit T))} (t : Nat → Bool) (w : Nat → T) (hN : N ≤ 1000000)
  (hb : ∀ k : Nat, k < N → body (k : Int) = if t k = true then some (.out (.out (w k))) else some (.go ((k + 1 : Nat) : Int))) (he : body (N : Int) = some (.out (.go ()))) :
  (∃ k, k < N ∧ t k = true ∧ (∀ j, j < k → t j = false) ∧ loopF body 0 = some (.out (w k))) ∨ ((∀ j, j < N → t j = false) ∧ loopF body 0 = some (.go ())) := by
 have key : ∀ n m : Nat, m + n = N → (∀ j, j < m → t j = false) →
   (∃ k, k < N ∧ t k = true ∧ (∀ j, j < k → t j = false) ∧ loopF body (m : Int) = some (.out (w k))) ∨ ((∀ j, j < N → t j = false) ∧ loopF body (m : Int) = some (.go ())) := by
  intro n
  induction n with
  | zero =>
    intro m hm hj
    have : m = N := by omega
    subst this
    exact .inr ⟨hj, Lq he⟩
  | succ n ih =>
    intro m hm hj
    have h1 := hb m (by omega)
    by_cases ht : t m = true
    ·rw [if_pos ht] at h1
     exact .inl ⟨m, by omega, ht, hj, Lq h1⟩
    ·rw [if_neg ht] at h1
     rw [loop_go h1]
     refine ih (m + 1) (by omega) fun j hjm => ?_
     rcases Nat.lt_or_ge j m with h | h
     ·exact hj j h
     ·have : j = m := by omega
      subst this; simpa using ht
 exact key N 0 (by omega) fun j hj => by omega
def flv (ids : List Int) (sh lf : Int → Int) : List RF := ids.map fun i => ⟨i, sh i, lf i⟩
theorem flv_len (ids : List Int) (sh lf : Int → Int) : (flv ids sh lf).length = ids.length := by simp [flv]
theorem flv_nth {ids : List Int} {sh lf : Int → Int} {k : Nat} (h : k < ids.length) : nthI (flv ids sh lf) (k : Int) = ⟨ids[k], sh ids[k], lf ids[k]⟩ := nthI_map _ h
theorem flv_set {ids : List Int} {sh lf : Int → Int} {k : Nat} (h : k < ids.length) (hn : ids.Nodup) (v : Int) : setI (flv ids sh lf) (k : Int) ⟨ids[k], sh ids[k], v⟩ = flv ids sh (setF lf ids[k] v) := by
 unfold setI flv
 rw [Int.toNat_natCast]
 refine List.ext_getElem (by simp) fun j h1 h2 => ?_
 simp only [List.length_set, List.length_map] at h1
 rw [List.getElem_set, List.getElem_map]
 by_cases hj : k = j
 ·subst hj; rw [if_pos rfl]; simp [setF]
 ·rw [if_neg hj, List.getElem_map]
  have hpw := List.pairwise_iff_getElem.1 hn
  have : ids[j] ≠ ids[k] := by
   rcases Nat.lt_or_ge j k with h3 | h3
   ·exact hpw j k _ _ h3
   ·exact fun q => hpw k j _ _ (by omega) q.symm
  simp [setF, this]
theorem flv_inb {ids : List Int} {sh lf : Int → Int} {k : Nat} (h : k < ids.length) : InB (k : Int) (lenL (flv ids sh lf)) := inb_n (by rw [flv_len]; exact h)

theorem rfind_ok {s : RS} {ids : List Int} {sh lf : Int → Int} (hs : s.fL = flv ids sh lf) (hl : ids.length ≤ 1000000) (id : Int) :
  (∃ k, ∃ h : k < ids.length, ids[k] = id ∧ gT s id = some (k : Int)) ∨ (id ∉ ids ∧ gT s id = some (-1)) := by
 have hsc := scan_ok (N := ids.length) (body := gT.loop1 s id) (fun k => decide (∃ h : k < ids.length, ids[k] = id)) (fun k => (k : Int)) hl (fun k hk => by
   unfold gT.loop1
   rw [hs, ltI_t (by unfold lenL; rw [flv_len]; omega), cond_true, Lf (flv_inb hk), flv_nth hk, succ_n _ (by omega), eqI_d]
   by_cases hx : ids[k] = id
   ·rw [decide_eq_true hx, if_pos (decide_eq_true ⟨hk, hx⟩)]; rfl
   ·rw [decide_eq_false hx, if_neg (by simp [hk, hx])]; rfl)
  (by unfold gT.loop1; rw [hs, ltI_f (by unfold lenL; rw [flv_len]; omega)]; rfl)
 unfold gT
 rcases hsc with ⟨k, hk, ht, _, e⟩ | ⟨hj, e⟩
 ·obtain ⟨_, hx⟩ := of_decide_eq_true ht
  exact .inl ⟨k, hk, hx, by rw [e]; rfl⟩
 ·refine .inr ⟨fun hm => ?_, by rw [e]; rfl⟩
  obtain ⟨k, hk, hx⟩ := List.mem_iff_getElem.1 hm
  exact of_decide_eq_false (hj k hk) ⟨hk, hx⟩

/-! ### Heads -/
def szOf : List Hd → Int → Int
 | [], _ => -1
 | h :: r, id => if h.fId = id then h.fj else szOf r id
theorem szOf_app (l : List Hd) (h : Hd) (id : Int) (hn : h.fId ∉ l.map (·.fId)) : szOf (l ++ [h]) id = if h.fId = id then h.fj else szOf l id := by
 induction l with
 | nil => rfl
 | cons x r ih =>
   simp only [List.map_cons, List.mem_cons, not_or] at hn
   simp only [List.cons_append, szOf, ih hn.2]
   by_cases h1 : x.fId = id
   ·rw [if_pos h1, if_pos h1, if_neg (fun q => hn.1 (by rw [q, h1]))]
   ·rw [if_neg h1, if_neg h1]
theorem szOf_mem {l : List Hd} (hn : (l.map (·.fId)).Nodup) {h : Hd} (hh : h ∈ l) : szOf l h.fId = h.fj := by
 induction l with
 | nil => cases hh
 | cons x r ih =>
   simp only [List.map_cons, List.nodup_cons] at hn
   unfold szOf
   rcases List.mem_cons.1 hh with e | hh
   ·rw [e, if_pos rfl]
   ·rw [if_neg (fun q => hn.1 (List.mem_map.2 ⟨h, hh, q.symm⟩)), ih hn.2 hh]
theorem szOf_no {l : List Hd} {id : Int} (h : id ∉ l.map (·.fId)) : szOf l id = -1 := by
 induction l with
 | nil => rfl
 | cons x r ih =>
   simp only [List.map_cons, List.mem_cons, not_or] at h
   unfold szOf
   rw [if_neg (fun q => h.1 q.symm), ih h.2]
theorem szOf_nn {l : List Hd} (hn : (l.map (·.fId)).Nodup) (hv : ∀ h ∈ l, 0 ≤ h.fj) (id : Int) : 0 ≤ szOf l id ↔ id ∈ l.map (·.fId) := by
 by_cases h : id ∈ l.map (·.fId)
 ·obtain ⟨x, hx, rfl⟩ := List.mem_map.1 h
  rw [szOf_mem hn hx]
  exact ⟨fun _ => h, fun _ => hv x hx⟩
 ·rw [szOf_no h]
  exact ⟨fun q => absurd q (by decide), fun q => absurd q h⟩

theorem rsize_ok {s : RS} {l : List Hd} (hn : (l.map (·.fId)).Nodup) (hl : l.length ≤ 1000000) (hv : ∀ h ∈ l, 0 ≤ h.fj ∧ h.fj ≤ s.fb) (id : Int) : gI s l id = some (szOf l id) := by
 have key : ∀ (r p : List Hd), p ++ r = l → loopF (gI.loop1 s l id) ((p.length : Int), szOf p id) = some (.go (szOf l id)) := by
  intro r
  induction r with
  | nil =>
    intro p hp
    rw [List.append_nil] at hp
    subst hp
    refine Lq ?_
    unfold gI.loop1
    rw [ltI_f (by simp only [lenL]; omega)]
    rfl
  | cons x r ih =>
    intro p hp
    have hlen : l.length = p.length + r.length + 1 := by rw [← hp]; simp; omega
    have hx : x ∈ l := by rw [← hp]; simp
    have hnp : x.fId ∉ p.map (·.fId) := by
     rw [← hp, List.map_append, List.map_cons] at hn
     have := List.nodup_append.1 hn
     exact fun q => this.2.2 _ q _ (.head _) rfl
    obtain ⟨v1, v2⟩ := hv x hx
    have h1 : gI.loop1 s l id ((p.length : Int), szOf p id) = some (.go (((p ++ [x]).length : Int), szOf (p ++ [x]) id)) := by
     unfold gI.loop1
     simp only
     have hnx : nthI l (p.length : Int) = x := by rw [← hp]; exact nthI_mid p x r
     rw [ltI_t (by unfold lenL; omega), cond_true, Lf (by rw [← hp]; exact inb_mid p x r), hnx, leI_t v1, leI_t v2, succ_n _ (by omega), szOf_app p x id hnp, eqI_d]
     by_cases hi : x.fId = id
     ·rw [decide_eq_true hi, if_pos hi]; simp [pickB]
     ·rw [decide_eq_false hi, if_neg hi]; simp [pickB]
    rw [loop_go h1]
    exact ih (p ++ [x]) (by simpa using hp)
 unfold gI
 rw [show loopF (gI.loop1 s l id) (0, -1) = _ from key l [] rfl]
 rfl
def nxI (l : List Int) (x : Int) : Int := match l.filter (fun i => decide (x < i)) with
 | i :: _ => i
 | [] => nthI l 0

theorem first_filter {l : List Int} {p : Int → Bool} {k : Nat} (h : k < l.length) (hp : p l[k] = true) (hb : ∀ (j : Nat) (hj : j < l.length), j < k → p l[j] = false) : ∃ r, l.filter p = l[k] :: r := by
 have e : l = l.take k ++ l[k] :: l.drop (k + 1) := by rw [List.getElem_cons_drop h, List.take_append_drop]
 have e1 : (l.take k).filter p = [] := List.filter_eq_nil_iff.2 fun a ha => by
  obtain ⟨j, hj, rfl⟩ := List.mem_iff_getElem.1 ha
  have hj' : j < k := by simp only [List.length_take] at hj; omega
  rw [List.getElem_take, hb j (by omega) hj']; decide
 refine ⟨(l.drop (k + 1)).filter p, ?_⟩
 conv => lhs; rw [e]
 rw [List.filter_append, e1, List.nil_append, List.filter_cons, if_pos hp]

theorem nxI_mem {l : List Int} (hne : l ≠ []) (x : Int) : nxI l x ∈ l := by
 unfold nxI
 split
 ·rename_i i r h
  have : i ∈ l.filter (fun i => decide (x < i)) := by rw [h]; exact .head _
  exact (List.mem_filter.1 this).1
 ·cases l with
  | nil => exact absurd rfl hne
  | cons a r => exact .head _

theorem after_nx {l : List Int} (hs : l.Pairwise (· < ·)) (hne : l ≠ []) (hl : l.length ≤ 1000000) (x : Int) : gaH l x = some (nxI l x) := by
 have hn : 0 < l.length := List.length_pos_iff.2 hne
 by_cases hex : ∃ k, ∃ h : k < l.length, x < l[k]
 ·have hex' : ∃ k : Nat, (∃ h : k < l.length, x < l[k]) ∧ ∀ j : Nat, j < k → ¬ ∃ h : j < l.length, x < l[j] := by
   obtain ⟨k0, h0⟩ := hex
   induction k0 using Nat.strongRecOn with
   | _ k ih =>
     by_cases hm : ∃ j, j < k ∧ ∃ h : j < l.length, x < l[j]
     ·obtain ⟨j, hj, h1⟩ := hm
      exact ih j hj h1
     ·exact ⟨k, h0, fun j hj q => hm ⟨j, hj, q⟩⟩
  obtain ⟨k, ⟨hk, hx⟩, hmin⟩ := hex'
  have := after_ok hs hn (by omega) (x := x) k (by omega) (fun q hq hqk => by
    have := hmin q hqk
    exact Int.not_lt.1 fun c => this ⟨hq, c⟩) (fun q hq hkq => by
    rcases Nat.lt_or_ge k q with h | h
    ·exact Int.lt_trans hx (List.pairwise_iff_getElem.1 hs k q hk hq h)
    ·have : q = k := by omega
     subst this; exact hx)
  rw [this, Nat.mod_eq_of_lt hk, nthI_n hk]
  obtain ⟨r, hr⟩ := first_filter (p := fun i => decide (x < i)) hk (decide_eq_true hx) (fun j hj hjk => decide_eq_false fun c => hmin j hjk ⟨hj, c⟩)
  unfold nxI
  rw [hr]
 ·have := after_ok hs hn (by omega) (x := x) l.length (Nat.le_refl _) (fun q hq _ => Int.not_lt.1 fun c => hex ⟨q, hq, c⟩) (fun q hq h => by omega)
  rw [this, Nat.mod_self]
  have e : l.filter (fun i => decide (x < i)) = [] := List.filter_eq_nil_iff.2 fun a ha => by
   obtain ⟨j, hj, rfl⟩ := List.mem_iff_getElem.1 ha
   simp only [decide_eq_true_eq]
   exact fun c => hex ⟨j, hj, c⟩
  unfold nxI
  rw [e]
  rfl

theorem rafter_ok {s : RS} {ids : List Int} {sh lf : Int → Int} (hs : s.fL = flv ids sh lf) (hr : ids.Pairwise (· < ·)) (hi : ids.length ≤ 1000000) {l : List Hd} (hsub : (l.map (·.fId)).Sublist ids) (hl : l.length ≤ 1000000)
  (hv : ∀ h ∈ l, 0 ≤ h.fj ∧ h.fj ≤ s.fb) (hne : l ≠ []) (x : Int) : ∃ k, ∃ h : k < ids.length, ids[k] = nxI (l.map (·.fId)) x ∧ gt s l x = some (k : Int) := by
 have hlr : (l.map (·.fId)).Pairwise (· < ·) := hr.sublist hsub
 have hn : (l.map (·.fId)).Nodup := hlr.imp fun h => by omega
 have hsz := rsize_ok (s := s) hn hl hv
 have hnn := szOf_nn hn (fun h hh => (hv h hh).1)
 have hfil : l.map (·.fId) = ids.filter (fun i => decide (0 ≤ szOf l i)) := by
  refine List.Perm.eq_of_pairwise (le := fun a b : Int => a < b) (fun a b _ _ h1 h2 => by omega) hlr (hr.sublist List.filter_sublist) ?_
  refine (List.perm_ext_iff_of_nodup hn ((hr.imp fun h => by omega : ids.Nodup).sublist List.filter_sublist)).2 fun a => ?_
  rw [List.mem_filter, decide_eq_true_eq, hnn]
  exact ⟨fun h => ⟨hsub.subset h, h⟩, fun h => h.2⟩
 have hlen : ∀ k : Nat, k < ids.length → ltI (k : Int) (lenL s.fL) = true := fun k hk => ltI_t (by rw [hs]; unfold lenL; rw [flv_len]; omega)
 have hend : ltI (ids.length : Int) (lenL s.fL) = false := ltI_f (by rw [hs]; unfold lenL; rw [flv_len]; omega)
 have s1 := scan_ok (N := ids.length) (body := gt.loop1 s l x) (fun k => decide (∃ h : k < ids.length, x < ids[k] ∧ 0 ≤ szOf l ids[k])) (fun k => (k : Int)) hi (fun k hk => by
   unfold gt.loop1
   rw [hlen k hk, cond_true, hs, Lf (flv_inb hk), flv_nth hk, succ_n _ (by omega)]
   simp only
   rw [hsz, Lf (some_u' _), getD_so, ltI_d, leI_d]
   by_cases h1 : x < ids[k]
   ·by_cases h2 : 0 ≤ szOf l ids[k]
    ·rw [decide_eq_true h1, decide_eq_true h2, if_pos (decide_eq_true ⟨hk, h1, h2⟩)]; rfl
    ·rw [decide_eq_true h1, decide_eq_false h2, if_neg (by simp [h2])]; rfl
   ·rw [decide_eq_false h1, if_neg (by simp [h1])]; rfl)
  (by unfold gt.loop1; rw [hend]; rfl)
 have s2 := scan_ok (N := ids.length) (body := gt.loop2 s l) (fun k => decide (∃ h : k < ids.length, 0 ≤ szOf l ids[k])) (fun k => (k : Int)) hi (fun k hk => by
   unfold gt.loop2
   rw [hlen k hk, cond_true, hs, Lf (flv_inb hk), flv_nth hk, succ_n _ (by omega)]
   simp only
   rw [hsz, Ld, leI_d]
   by_cases h2 : 0 ≤ szOf l ids[k]
   ·rw [decide_eq_true h2, if_pos (decide_eq_true ⟨hk, h2⟩)]; rfl
   ·rw [decide_eq_false h2, if_neg (by simp [h2])]; rfl)
  (by unfold gt.loop2; rw [hend]; rfl)
 unfold gt
 rcases s1 with ⟨k, hk, ht, hj, e⟩ | ⟨hj, e⟩
 ·obtain ⟨_, h1, h2⟩ := of_decide_eq_true ht
  refine ⟨k, hk, ?_, by rw [e]; rfl⟩
  obtain ⟨r, hr'⟩ := first_filter (p := fun i => decide (x < i) && decide (0 ≤ szOf l i)) hk (by simp [h1, h2]) (fun j hjl hjk => by
   have := of_decide_eq_false (hj j hjk)
   rw [← Bool.decide_and]
   exact decide_eq_false fun c => this ⟨hjl, c.1, c.2⟩)
  unfold nxI
  rw [hfil, List.filter_filter, hr']
 ·have e1 : (l.map (·.fId)).filter (fun i => decide (x < i)) = [] := by
   rw [hfil, List.filter_filter]
   refine List.filter_eq_nil_iff.2 fun a ha => ?_
   obtain ⟨j, hjl, rfl⟩ := List.mem_iff_getElem.1 ha
   have := of_decide_eq_false (hj j hjl)
   simp only [Bool.and_eq_true, decide_eq_true_eq]
   exact fun c => this ⟨hjl, c.1, c.2⟩
  rw [e]
  simp only [Ld, flC_go]
  rcases s2 with ⟨k, hk, ht, hj2, e2⟩ | ⟨hj2, e2⟩
  ·obtain ⟨_, h2⟩ := of_decide_eq_true ht
   refine ⟨k, hk, ?_, by rw [e2]; rfl⟩
   obtain ⟨r, hr'⟩ := first_filter (p := fun i => decide (0 ≤ szOf l i)) hk (by simp [h2]) (fun j hjl hjk => by
    have := of_decide_eq_false (hj2 j hjk)
    exact decide_eq_false fun c => this ⟨hjl, c⟩)
   unfold nxI
   rw [e1]
   simp only
   rw [hfil, hr', nthI_0]
  ·exfalso
   have hm : ∃ h, h ∈ l := List.exists_mem_of_ne_nil _ hne
   obtain ⟨h, hh⟩ := hm
   have hmem : h.fId ∈ ids := hsub.subset (List.mem_map.2 ⟨h, hh, rfl⟩)
   obtain ⟨k, hk, hx⟩ := List.mem_iff_getElem.1 hmem
   exact of_decide_eq_false (hj2 k hk) ⟨hk, by rw [hx, szOf_mem hn hh]; exact (hv h hh).1⟩
theorem rafter_none {s : RS} {ids : List Int} {sh lf : Int → Int} (hs : s.fL = flv ids sh lf) (hi : ids.length ≤ 1000000) (x : Int) : gt s [] x = some (-1) := by
 have hsz : ∀ id, gI s [] id = some (-1) := fun id => rsize_ok (l := []) (by simp) (by simp) (fun h hh => by cases hh) id
 have hlen : ∀ k : Nat, k < ids.length → ltI (k : Int) (lenL s.fL) = true := fun k hk => ltI_t (by rw [hs]; unfold lenL; rw [flv_len]; omega)
 have hend : ltI (ids.length : Int) (lenL s.fL) = false := ltI_f (by rw [hs]; unfold lenL; rw [flv_len]; omega)
 have s1 := scan_ok (N := ids.length) (body := gt.loop1 s [] x) (fun _ => false) (fun k => (k : Int)) hi (fun k hk => by
   unfold gt.loop1
   rw [hlen k hk, cond_true, hs, Lf (flv_inb hk), flv_nth hk, succ_n _ (by omega)]
   simp only
   rw [hsz, Lf (some_u' _), getD_so, leI_f (by decide)]
   simp [pickB])
  (by unfold gt.loop1; rw [hend]; rfl)
 have s2 := scan_ok (N := ids.length) (body := gt.loop2 s []) (fun _ => false) (fun k => (k : Int)) hi (fun k hk => by
   unfold gt.loop2
   rw [hlen k hk, cond_true, hs, Lf (flv_inb hk), flv_nth hk, succ_n _ (by omega)]
   simp only
   rw [hsz, Ld, leI_f (by decide)]
   simp)
  (by unfold gt.loop2; rw [hend]; rfl)
 unfold gt
 rcases s1 with ⟨k, hk, ht, _⟩ | ⟨_, e⟩
 ·cases ht
 rcases s2 with ⟨k, hk, ht, _⟩ | ⟨_, e2⟩
 ·cases ht
 rw [e]
 simp only [Ld, flC_go, e2]
end Go.Proofs
