/- The outlet's flows as a row by rising numbers: which one waits, whose turn it is. No condition. -/
import Derived.Test.YtpjplfnapgpfmaaGreatM14
import Derived.Test.YtpjplfnapgpfmaaGreatM03
import Derived.Test.YtpjplfnapgpfmaaGreatM10
import Derived.Test.YtpjplfnapgpfmaaGreatM01
import Derived.Test.YtpjplfnapgpfmaaGreatYt
section
namespace Go.Proofs
open Go.Ab
abbrev Fw := Tg
abbrev Sn := Tb

/-! ### Maps -/
section
variable {V : Type}
theorem findM_of {k : Int} {v : V} : ∀ {m : List (Int × V)}, (keysM m).Nodup → (k, v) ∈ m → findM eqI k m = some v
 | [], _, h => by cases h
 | (c, x) :: r, hn, h => by
   unfold findM
   simp only [keysM, List.map_cons, List.nodup_cons] at hn
   rcases List.mem_cons.1 h with h | h
   ·cases h
    rw [eqI_t rfl, if_pos rfl]
   ·have hne : k ≠ c := fun e => hn.1 (List.mem_map.2 ⟨(k, v), h, e⟩)
    rw [eqI_f hne, if_neg (by decide)]
    exact findM_of hn.2 h
theorem findM_no {k : Int} : ∀ {m : List (Int × V)}, k ∉ keysM m → findM eqI k m = none
 | [], _ => rfl
 | (c, x) :: r, h => by
   unfold findM
   simp only [keysM, List.map_cons, List.mem_cons, not_or] at h
   rw [eqI_f h.1, if_neg (by decide)]
   exact findM_no h.2
theorem setM_perm {k : Int} {v v' : V} : ∀ {m : List (Int × V)} , (keysM m).Nodup → (k, v) ∈ m → ∀ {r}, m.Perm ((k, v) :: r) → (setM eqI k v' m).Perm ((k, v') :: r)
 | [], _, h, _, _ => by cases h
 | (c, x) :: s, hn, h, r, hp => by
   have hn' := hn
   simp only [keysM, List.map_cons, List.nodup_cons] at hn'
   unfold setM
   by_cases he : k = c
   ·subst he
    rw [eqI_t rfl, if_pos rfl]
    have : x = v := by
     rcases List.mem_cons.1 h with h | h
     ·cases h; rfl
     ·exact absurd (List.mem_map.2 ⟨(k, v), h, rfl⟩) hn'.1
    subst this
    exact (hp.cons_inv).cons _
   ·rw [eqI_f he, if_neg (by decide)]
    have hm : (k, v) ∈ s := by
     rcases List.mem_cons.1 h with h | h
     ·cases h; exact absurd rfl he
     ·exact h
    obtain ⟨r', hr'⟩ : ∃ r', s.Perm ((k, v) :: r') := ⟨_, delM_perm hn'.2 hm⟩
    have h1 : r.Perm ((c, x) :: r') := by
     have : ((k, v) :: r).Perm ((k, v) :: (c, x) :: r') := hp.symm.trans ((hr'.cons _).trans (List.Perm.swap _ _ _))
     exact this.cons_inv
    exact ((setM_perm hn'.2 hm hr').cons _).trans ((List.Perm.swap _ _ _).trans (h1.symm.cons _))
end

/-! ### Items of a flow -/
def mkS (id : Int) (l : List It) : List Sn := l.map fun x => ⟨id, x⟩
theorem all_gen {T : Type} {id : Int} {l : List It} {body : Int × List Sn → Option (Fl (Int × List Sn) (Fl (List Sn) T))} (hl : l.length ≤ 1000000)
  (hb : ∀ s, body s = bif ltI s.1 (lenL l) then (need (InB s.1 (lenL l)) <| need (AppB (lenL s.2) 1 40) <| some (.go ((addI .i64 s.1 1), (appL s.2 [(Tb.mk id (nthI l s.1))])))) else some (.out (.go s.2))) :
  loopF body (0, []) = some (.go (mkS id l)) := by
 have key : ∀ (r p : List It), p ++ r = l → loopF body ((p.length : Int), mkS id p) = some (.go (mkS id l)) := by
  intro r
  induction r with
  | nil =>
    intro p hp
    rw [List.append_nil] at hp
    subst hp
    refine Lq ?_
    rw [hb, ltI_f (by simp only [lenL]; omega)]
    rfl
  | cons x r ih =>
    intro p hp
    have hlen : l.length = p.length + r.length + 1 := by rw [← hp]; simp; omega
    have h1 : body ((p.length : Int), mkS id p) = some (.go (((p ++ [x]).length : Int), mkS id (p ++ [x]))) := by
     rw [hb]
     simp only
     rw [ltI_t (by unfold lenL; omega), cond_true, Lf (by rw [← hp]; exact inb_mid p x r), Lf (appB_1 _ (by simp [mkS]; omega) (by omega)), succ_n _ (by omega)]
     have : nthI l (p.length : Int) = x := by rw [← hp]; exact nthI_mid p x r
     rw [this]
     simp [mkS, app_eq]
    rw [loop_go h1]
    exact ih (p ++ [x]) (by simpa using hp)
 exact key l [] rfl
theorem eall_ok (id : Int) {l : List It} (hl : l.length ≤ 1000000) : gag id l = some (mkS id l) := by
 unfold gag
 rw [all_gen hl (fun s => by unfold gag.loop1; rfl)]
 rfl

/-! ### The flows -/
def rowF (f : Fw) : Int × Tk := (f.fId, ⟨qOf f.fQ, f.fu⟩)
structure FR (m : List (Int × Tk)) (F : List Fw) : Prop where
 perm : m.Perm (F.map rowF)
 rise : (F.map (·.fId)).Pairwise (· < ·)
 ok : ∀ f ∈ F, QOk f.fQ
 ids : ∀ f ∈ F, -9223372036854775808 ≤ f.fId ∧ f.fId ≤ 9223372036854775807
 len : F.length ≤ 1000

theorem keys_row (F : List Fw) : keysM (F.map rowF) = F.map (·.fId) := by simp [keysM, rowF, Function.comp_def]
theorem FR.keys {m : List (Int × Tk)} {F : List Fw} (h : FR m F) : (keysM m).Perm (F.map (·.fId)) := by
 have := keysM_perm h.perm; rwa [keys_row] at this
theorem FR.nodup {m : List (Int × Tk)} {F : List Fw} (h : FR m F) : (keysM m).Nodup :=
 h.keys.nodup_iff.2 (h.rise.imp fun h => by omega)
theorem FR.sort {m : List (Int × Tk)} {F : List Fw} (h : FR m F) : sortL (keysM m) = F.map (·.fId) :=
 sortL_of h.keys (h.rise.imp fun h => by omega)
theorem FR.find {m : List (Int × Tk)} {F : List Fw} (h : FR m F) {f : Fw} (hf : f ∈ F) : findM eqI f.fId m = some ⟨qOf f.fQ, f.fu⟩ :=
 findM_of h.nodup (h.perm.mem_iff.2 (List.mem_map.2 ⟨f, hf, rfl⟩))
theorem FR.miss {m : List (Int × Tk)} {F : List Fw} (h : FR m F) {id : Int} (hf : id ∉ F.map (·.fId)) : findM eqI id m = none :=
 findM_no fun q => hf (h.keys.mem_iff.1 q)
theorem FR.keysB {m : List (Int × Tk)} {F : List Fw} (h : FR m F) : KeysB (keysM m) :=
 KeysB_of (fun x hx => by
  obtain ⟨f, hf, rfl⟩ := List.mem_map.1 (h.keys.mem_iff.1 hx)
  exact h.ids f hf) (by have := h.keys.length_eq; have := h.len; simp only [List.length_map] at *; omega)
def waitsV (v : Bool) (f : Fw) : Bool := f.fu == v && !f.fQ.fL.isEmpty

theorem ids_ok {P : Th} {F : List Fw} (h : FR P.fh F) (v : Bool) : gy P v = some ((F.filter (waitsV v)).map (·.fId)) := by
 have hlen := h.len
 have key : ∀ (r p : List Fw), p ++ r = F → loopF (gy.loop1 P v) ((p.length : Int), (p.filter (waitsV v)).map (·.fId)) = some (.go ((F.filter (waitsV v)).map (·.fId))) := by
  intro r
  induction r with
  | nil =>
    intro p hp
    rw [List.append_nil] at hp
    subst hp
    refine Lq ?_
    unfold gy.loop1
    rw [h.sort, ltI_f (by simp [lenL])]
    rfl
  | cons f r ih =>
    intro p hp
    have hln : F.length = p.length + r.length + 1 := by rw [← hp]; simp; omega
    have hm : f ∈ F := by rw [← hp]; simp
    have hn : nthI (F.map (·.fId)) (p.length : Int) = f.fId := by
     rw [← hp, List.map_append, List.map_cons]
     have := nthI_mid (p.map (·.fId)) f.fId (r.map (·.fId))
     rwa [List.length_map] at this
    have h1 : gy.loop1 P v ((p.length : Int), (p.filter (waitsV v)).map (·.fId)) = some (.go (((p ++ [f]).length : Int), ((p ++ [f]).filter (waitsV v)).map (·.fId))) := by
     unfold gy.loop1
     simp only
     rw [h.sort, ltI_t (by simp [lenL]; omega), cond_true, Lf (show InB _ _ from ⟨by omega, by simp [lenL]; omega⟩), hn, h.find hm, optC_some, len_ok, Lf (some_u _), succ_n _ (by omega)]
     simp only [getD_so]
     rw [eqB_d]
     by_cases hv : f.fu = v
     ·rw [decide_eq_true hv]
      by_cases he : f.fQ.fL = []
      ·rw [he, ltI_f (by simp [lenL])]
       simp [pickB, waitsV, he]
      ·rw [len0 he]
       have hw : waitsV v f = true := by simp [waitsV, hv, he]
       simp only [pickB, cond_true]
       rw [Lf (appB_1 _ (by have := List.length_filter_le (waitsV v) p; simp only [List.length_map]; omega) (by omega))]
       simp [hw, app_eq]
     ·rw [decide_eq_false hv]
      simp [pickB, waitsV, hv]
    rw [loop_go h1]
    exact ih (p ++ [f]) (by simpa using hp)
 unfold gy
 rw [Lf h.keysB, show loopF (gy.loop1 P v) (0, []) = _ from key F [] rfl]
 rfl
def hd (f : Fw) : It := nthI f.fQ.fL 0
theorem hd_of {f : Fw} {v : Bool} (h : waitsV v f = true) : ∃ r, f.fQ.fL = hd f :: r := by
 unfold waitsV at h
 unfold hd
 cases hl : f.fQ.fL with
 | nil => rw [hl] at h; simp at h
 | cons x r => exact ⟨r, rfl⟩
theorem waitsV_v {f : Fw} {v : Bool} (h : waitsV v f = true) : f.fu = v := by
 unfold waitsV at h
 simp only [Bool.and_eq_true, beq_iff_eq] at h
 exact h.1
def minFrom (m : Fw) : List Fw → Fw
 | [] => m
 | f :: r => minFrom (if (hd f).fw < (hd m).fw then f else m) r
theorem minFrom_mem : ∀ {r : List Fw} {m : Fw}, minFrom m r = m ∨ minFrom m r ∈ r
 | [], _ => .inl rfl
 | f :: r, m => by
   unfold minFrom
   split
   ·rcases minFrom_mem (r := r) (m := f) with h | h
    ·rw [h]; exact .inr (.head _)
    ·exact .inr (.tail _ h)
   ·rcases minFrom_mem (r := r) (m := m) with h | h
    ·exact .inl h
    ·exact .inr (.tail _ h)

theorem sound1_ok {P : Th} {F : List Fw} (h : FR P.fh F) {f g : Fw} {v w : Bool} (hf : f ∈ F) (hg : g ∈ F) (hfw : waitsV v f = true) (hgw : waitsV w g = true) :
  gX f.fId g.fId P = some (subI .i64 (hd f).fw (hd g).fw) := by
 obtain ⟨r1, e1⟩ := hd_of hfw
 obtain ⟨r2, e2⟩ := hd_of hgw
 unfold gX
 rw [h.find hf, optC_some, first_ok e1, Ld, h.find hg, optC_some, first_ok e2]
 rfl

theorem sound_ok {P : Th} {F : List Fw} (h : FR P.fh F) {f : Fw} {r : List Fw} (hs : F.filter (waitsV false) = f :: r) (ht : ∀ g ∈ F, ∀ x ∈ g.fQ.fL, 0 ≤ x.fw ∧ x.fw ≤ 1000000000000) :
  gaf P ((F.filter (waitsV false)).map (·.fId)) = some (minFrom f r).fId := by
 have hall : ∀ g ∈ f :: r, g ∈ F ∧ waitsV false g = true := fun g hg => by rw [← hs] at hg; exact List.mem_filter.1 hg
 have hlen : (f :: r).length ≤ 1000 := by rw [← hs]; exact Nat.le_trans (List.length_filter_le _ _) h.len
 have htk : ∀ g ∈ f :: r, 0 ≤ (hd g).fw ∧ (hd g).fw ≤ 1000000000000 := fun g hg => by
  obtain ⟨s, e⟩ := hd_of (hall g hg).2
  exact ht g (hall g hg).1 _ (by rw [e]; exact .head _)
 have key : ∀ (q p : List Fw) (m : Fw), p ++ q = f :: r → m ∈ f :: r → loopF (ga.loop2 ((f :: r).map (·.fId)) P) ((p.length : Int), m.fId) = some (.go (minFrom m q).fId) := by
  intro q
  induction q with
  | nil =>
    intro p m hp _
    rw [List.append_nil] at hp
    subst hp
    refine Lq ?_
    unfold ga.loop2
    rw [ltI_f (by simp [lenL])]
    rfl
  | cons g q ih =>
    intro p m hp hm
    have hln : (f :: r).length = p.length + q.length + 1 := by rw [← hp]; simp; omega
    have hg : g ∈ f :: r := by rw [← hp]; simp
    have hn : nthI ((f :: r).map (·.fId)) (p.length : Int) = g.fId := by
     rw [← hp, List.map_append, List.map_cons]
     have := nthI_mid (p.map (·.fId)) g.fId (q.map (·.fId))
     rwa [List.length_map] at this
    have hin : InB (p.length : Int) (lenL ((f :: r).map (·.fId))) := ⟨by omega, by simp only [lenL, List.length_map]; omega⟩
    have t1 := htk g hg
    have t2 := htk m hm
    have h1 : ga.loop2 ((f :: r).map (·.fId)) P ((p.length : Int), m.fId) = some (.go (((p ++ [g]).length : Int), (if (hd g).fw < (hd m).fw then g else m).fId)) := by
     unfold ga.loop2
     simp only
     rw [ltI_t (by exact hin.2), cond_true, Lf hin, hn, sound1_ok h (hall g hg).1 (hall m hm).1 (hall g hg).2 (hall m hm).2, Ld, succ_n _ (by omega), subI_n (by omega) (by omega)]
     by_cases hc : (hd g).fw < (hd m).fw
     ·rw [ltI_t (by omega), if_pos hc]
      simp only [cond_true, Lf hin, Ld, flC_go]
      simp
     ·rw [ltI_f (by omega), if_neg hc]
      simp only [cond_false, Ld, flC_go]
      simp
    rw [loop_go h1]
    rw [ih (p ++ [g]) _ (by simpa using hp) (by split; exact hg; exact hm)]
    rfl
 unfold gaf ga
 rw [hs, ltI_f (by simp [lenL]; omega)]
 simp only [cond_false, Ld, flC_go]
 rw [Lf (show InB 0 (lenL ((f :: r).map (·.fId))) from inb_0 _ _), show nthI ((f :: r).map (·.fId)) 0 = f.fId from rfl, show loopF (ga.loop2 ((f :: r).map (·.fId)) P) (1, f.fId) = _ from key r [f] f rfl (.head _)]
 rfl
end Go.Proofs
end
section
namespace Go.Proofs
open Go.Ab

theorem flv_congr {ids : List Int} {sh lf lf' : Int → Int} (h : ∀ i ∈ ids, lf i = lf' i) : flv ids sh lf = flv ids sh lf' := by
 unfold flv
 exact List.map_congr_left fun i hi => by rw [h i hi]
theorem flv_lenL (ids : List Int) (sh lf : Int → Int) : lenL (flv ids sh lf) = (ids.length : Int) := by unfold lenL; rw [flv_len]
def lfZ (l : List Hd) (lf : Int → Int) : Int → Int := fun x => if x ∈ l.map (·.fId) then lf x else 0

section
variable {x : RS} {mo : Int} {sh lf : Int → Int} {at' : Int} {gr : Bool} {ids : List Int} {l : List Hd}

theorem rzero_ok (hx : x.fL = flv ids sh lf) (hm : x.fb = mo) (hr : ids.Pairwise (· < ·)) (hi : ids.length ≤ 1000) (hsub : (l.map (·.fId)).Sublist ids) (hv : ∀ h ∈ l, 0 ≤ h.fj ∧ h.fj ≤ mo) :
  loopF (gf.loop1 x l) (0, x.fL) = some (.go (flv ids sh (lfZ l lf))) := by
 have hnd : ids.Nodup := hr.imp fun h => by omega
 have hn : (l.map (·.fId)).Nodup := hnd.sublist hsub
 have hl : l.length ≤ 1000 := by have := hsub.length_le; simp only [List.length_map] at this; omega
 have hsz := rsize_ok (s := x) hn (by omega) (by rw [hm]; exact hv)
 have hnn := szOf_nn hn (fun h hh => (hv h hh).1)
 have key : ∀ n k : Nat, k + n = ids.length → loopF (gf.loop1 x l) ((k : Int), flv ids sh (fun y => if y ∈ ids.take k then lfZ l lf y else lf y)) = some (.go (flv ids sh (lfZ l lf))) := by
  intro n
  induction n with
  | zero =>
    intro k hk
    have : k = ids.length := by omega
    subst this
    refine Lq ?_
    unfold gf.loop1
    simp only
    rw [hx, flv_lenL, ltI_f (by omega), List.take_length, cond_false]
    rw [flv_congr (lf' := lfZ l lf) fun i hi => by rw [if_pos hi]]
  | succ n ih =>
    intro k hk
    have hkl : k < ids.length := by omega
    have hnot : ids[k] ∉ ids.take k := fun q => by
     obtain ⟨j, hj, e⟩ := List.mem_iff_getElem.1 q
     have hj' : j < k := by simp only [List.length_take] at hj; omega
     rw [List.getElem_take] at e
     have := List.pairwise_iff_getElem.1 hr j k (by omega) hkl hj'
     omega
    have h1 : gf.loop1 x l ((k : Int), flv ids sh (fun y => if y ∈ ids.take k then lfZ l lf y else lf y)) = some (.go (((k + 1 : Nat) : Int), flv ids sh (fun y => if y ∈ ids.take (k + 1) then lfZ l lf y else lf y))) := by
     unfold gf.loop1
     simp only
     have hI : InB (k : Int) (lenL x.fL) := by rw [hx]; exact flv_inb hkl
     rw [ltI_t hI.2, cond_true, Lf hI, Lf (flv_inb hkl), flv_nth hkl, hsz, Ld, Lf hI, Lf (flv_inb hkl), succ_n _ (by omega)]
     simp only
     rw [flv_set hkl hnd]
     have hstep : ∀ y ∈ ids, (if y ∈ ids.take (k + 1) then lfZ l lf y else lf y) = if y = ids[k] then lfZ l lf y else (if y ∈ ids.take k then lfZ l lf y else lf y) := fun y hy => by
      rw [List.take_succ_eq_append_getElem hkl]
      simp only [List.mem_append, List.mem_singleton]
      by_cases hy1 : y = ids[k]
      ·rw [if_pos (.inr hy1), if_pos hy1]
      ·rw [if_neg hy1]
       by_cases hy2 : y ∈ ids.take k
       ·rw [if_pos (.inl hy2), if_pos hy2]
       ·rw [if_neg (by rintro (q | q); exact hy2 q; exact hy1 q), if_neg hy2]
     rw [flv_congr hstep]
     by_cases hz : szOf l ids[k] < 0
     ·rw [ltI_t hz, cond_true]
      have hm' : ids[k] ∉ l.map (·.fId) := fun q => by have := (hnn ids[k]).2 q; omega
      rw [flv_congr (lf := setF _ _ _) (lf' := fun y => if y = ids[k] then lfZ l lf y else (if y ∈ ids.take k then lfZ l lf y else lf y)) fun y hy => by
       simp only [setF]
       by_cases hy1 : y = ids[k]
       ·rw [if_pos hy1, if_pos hy1, hy1]; simp only [lfZ, if_neg hm']
       ·rw [if_neg hy1, if_neg hy1]]
     ·rw [ltI_f hz, cond_false]
      have hm' : ids[k] ∈ l.map (·.fId) := (hnn ids[k]).1 (by omega)
      rw [flv_congr (lf := fun y => if y ∈ ids.take k then lfZ l lf y else lf y) (lf' := fun y => if y = ids[k] then lfZ l lf y else (if y ∈ ids.take k then lfZ l lf y else lf y)) fun y hy => by
       by_cases hy1 : y = ids[k]
       ·rw [if_pos hy1, hy1, if_neg hnot]; simp only [lfZ, if_pos hm']
       ·rw [if_neg hy1]]
    rw [loop_go h1]
    exact ih (k + 1) (by omega)
 have := key ids.length 0 (by omega)
 simp only [List.take_zero, List.not_mem_nil, if_false] at this
 rw [hx]
 exact this

theorem rround_ok (hx : x.fL = flv ids sh lf) (hm : x.fb = mo) (hr : ids.Pairwise (· < ·)) (hi : ids.length ≤ 1000) (hsub : (l.map (·.fId)).Sublist ids) (hv : ∀ h ∈ l, 0 ≤ h.fj ∧ h.fj ≤ mo) (hne : l ≠ [])
  (n k : Nat) (hn1 : n < 1000) (hk : k < ids.length) (a0 : Int) (g : Bool) (f : Int → Int) (hf : 0 ≤ f ids[k] ∧ f ids[k] ≤ 1000000000) (hs : 0 ≤ sh ids[k] ∧ sh ids[k] ≤ 1000000000) :
  ∃ k', ∃ h : k' < ids.length, ids[k'] = nxI (l.map (·.fId)) ids[k] ∧ gf.loop3 x l ((n : Int), (k : Int), a0, g, flv ids sh f) =
    if szOf l ids[k] ≤ (if g = true then f else setF f ids[k] (f ids[k] + sh ids[k])) ids[k]
    then some (.out (.out (⟨mo, flv ids sh (if g = true then f else setF f ids[k] (f ids[k] + sh ids[k])), ids[k], true⟩, ids[k], true)))
    else some (.go (((n + 1 : Nat) : Int), (k' : Int), ids[k], false, flv ids sh (if g = true then f else setF f ids[k] (f ids[k] + sh ids[k])))) := by
 have hnd : ids.Nodup := hr.imp fun h => by omega
 have hn : (l.map (·.fId)).Nodup := hnd.sublist hsub
 have hl : l.length ≤ 1000 := by have := hsub.length_le; simp only [List.length_map] at this; omega
 have hI : InB (k : Int) (lenL x.fL) := by rw [hx]; exact flv_inb hk
 have hJ : ∀ f' : Int → Int, InB (k : Int) (lenL (flv ids sh f')) := fun f' => flv_inb hk
 have hL : ∀ f' : Int → Int, lenL (flv ids sh f') = lenL x.fL := fun f' => by rw [hx, flv_lenL, flv_lenL]
 have hfin : ∀ f' : Int → Int, ∃ k', ∃ h : k' < ids.length, ids[k'] = nxI (l.map (·.fId)) ids[k] ∧ ∀ b : Bool, gq ⟨x.fb, flv ids sh f', ids[k], b⟩ l ids[k] = some (k' : Int) := fun f' => by
  obtain ⟨k', hk', e1, e2⟩ := rafter_ok (s := ⟨x.fb, flv ids sh f', ids[k], true⟩) rfl hr (by omega) hsub (by omega) (by rw [hm]; exact hv) hne ids[k]
  refine ⟨k', hk', e1, fun b => ?_⟩
  obtain ⟨k2, hk2, e3, e4⟩ := rafter_ok (s := ⟨x.fb, flv ids sh f', ids[k], b⟩) rfl hr (by omega) hsub (by omega) (by rw [hm]; exact hv) hne ids[k]
  have : k2 = k' := by
   have h0 : ids[k2] = ids[k'] := by rw [e3, e1]
   rcases Nat.lt_trichotomy k2 k' with h | h | h
   ·exact absurd h0 (List.pairwise_iff_getElem.1 hnd k2 k' _ _ h)
   ·exact h
   ·exact absurd h0.symm (List.pairwise_iff_getElem.1 hnd k' k2 _ _ h)
  rw [e4, this]
 have hsz : ∀ (f' : Int → Int) (b : Bool), gI ⟨x.fb, flv ids sh f', ids[k], b⟩ l ids[k] = some (szOf l ids[k]) := fun f' b => rsize_ok hn (by omega) (by rw [hm]; exact hv) _
 cases g with
 | true =>
   simp only [if_true]
   obtain ⟨k', hk', e1, e2⟩ := hfin f
   refine ⟨k', hk', e1, ?_⟩
   unfold gf.loop3
   simp only
   rw [ltI_t (by omega), cond_true, Lf hI, Lf (hJ f), notB_f', cond_false]
   simp only [Ld, flC_go, flv_nth hk]
   rw [Lf hI, Lf (hJ f), Lf (hL f), hsz]
   simp only [Ld]
   rw [leI_d]
   by_cases hc : szOf l ids[k] ≤ f ids[k]
   ·simp only [decide_eq_true hc, cond_true, if_pos hc, Lf (hL f), Ld, flC_out, hm]
   ·simp only [decide_eq_false hc, cond_false, if_neg hc, Lf (hL f), e2, Ld, flC_go, succ_n n (by omega)]
 | false =>
   simp only [Bool.false_eq_true, if_false]
   obtain ⟨k', hk', e1, e2⟩ := hfin (setF f ids[k] (f ids[k] + sh ids[k]))
   refine ⟨k', hk', e1, ?_⟩
   unfold gf.loop3
   simp only
   rw [ltI_t (by omega), cond_true, Lf hI, Lf (hJ f), notB_t', cond_true]
   simp only [Lf hI, Lf (hJ f), flv_nth hk]
   rw [addI_n (by omega) (by omega), flv_set hk hnd]
   simp only [Ld, flC_go]
   rw [Lf (hJ _), Lf (hL _), hsz]
   simp only [Ld, flv_nth hk]
   rw [leI_d]
   by_cases hc : szOf l ids[k] ≤ setF f ids[k] (f ids[k] + sh ids[k]) ids[k]
   ·simp only [decide_eq_true hc, cond_true, if_pos hc, Lf (hL _), Ld, flC_out, hm]
   ·simp only [decide_eq_false hc, cond_false, if_neg hc, Lf (hL _), e2, Ld, flC_go, succ_n n (by omega)]
end
end Go.Proofs
end
