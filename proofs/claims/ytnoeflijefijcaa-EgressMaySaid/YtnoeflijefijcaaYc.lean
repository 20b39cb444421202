/- The outlet's flows as a row by rising numbers: which one waits, whose turn it is. No condition. -/
import Derived.Test.YtnoeflijefijcaaYb
import Derived.Test.YtnoeflijefijcaaMv
import Derived.Test.YtnoeflijefijcaaEaD
import Derived.Test.YtnoeflijefijcaaM04
namespace Go.Proofs
open Go.Ab
abbrev Fw := Antiphonref20Flow
abbrev Sn := Antiphonref20Sent

/-! ### Maps -/
section
variable {V : Type}
theorem findM_of {k : Int} {v : V} : ∀ {m : List (Int × V)}, (keysM m).Nodup → (k, v) ∈ m → findM eqI k m = some v
  | [], _, h => by cases h
  | (c, x) :: r, hn, h => by
    unfold findM
    simp only [keysM, List.map_cons, List.nodup_cons] at hn
    rcases List.mem_cons.1 h with h | h
    · cases h
      rw [eqI_t rfl, if_pos rfl]
    · have hne : k ≠ c := fun e => hn.1 (List.mem_map.2 ⟨(k, v), h, e⟩)
      rw [eqI_f hne, if_neg (by decide)]
      exact findM_of hn.2 h
theorem findM_no {k : Int} : ∀ {m : List (Int × V)}, k ∉ keysM m → findM eqI k m = none
  | [], _ => rfl
  | (c, x) :: r, h => by
    unfold findM
    simp only [keysM, List.map_cons, List.mem_cons, not_or] at h
    rw [eqI_f h.1, if_neg (by decide)]
    exact findM_no h.2
theorem setM_perm {k : Int} {v v' : V} : ∀ {m : List (Int × V)} , (keysM m).Nodup → (k, v) ∈ m → ∀ {r}, m.Perm ((k, v) :: r) → (setM eqI k v' m).Perm ((k, v') :: r)
  | [], _, h, _, _ => by cases h
  | (c, x) :: s, hn, h, r, hp => by
    have hn' := hn
    simp only [keysM, List.map_cons, List.nodup_cons] at hn'
    unfold setM
    by_cases he : k = c
    · subst he
      rw [eqI_t rfl, if_pos rfl]
      have : x = v := by
        rcases List.mem_cons.1 h with h | h
        · cases h; rfl
        · exact absurd (List.mem_map.2 ⟨(k, v), h, rfl⟩) hn'.1
      subst this
      exact (hp.cons_inv).cons _
    · rw [eqI_f he, if_neg (by decide)]
      have hm : (k, v) ∈ s := by
        rcases List.mem_cons.1 h with h | h
        · cases h; exact absurd rfl he
        · exact h
      obtain ⟨r', hr'⟩ : ∃ r', s.Perm ((k, v) :: r') := ⟨_, delM_perm hn'.2 hm⟩
      have h1 : r.Perm ((c, x) :: r') := by
        have : ((k, v) :: r).Perm ((k, v) :: (c, x) :: r') := hp.symm.trans ((hr'.cons _).trans (List.Perm.swap _ _ _))
        exact this.cons_inv
      exact ((setM_perm hn'.2 hm hr').cons _).trans ((List.Perm.swap _ _ _).trans (h1.symm.cons _))
end

/-! ### Items of a flow -/
def mkS (id : Int) (l : List It) : List Sn := l.map fun x => ⟨id, x⟩
theorem all_gen {T : Type} {id : Int} {l : List It} {body : Int × List Sn → Option (Fl (Int × List Sn) (Fl (List Sn) T))} (hl : l.length ≤ 1000000)
    (hb : ∀ s, body s = bif ltI s.1 (lenL l) then (need (InB s.1 (lenL l)) <| need (AppB (lenL s.2) 1 40) <| some (.go ((addI .i64 s.1 1), (appL s.2 [(Antiphonref20Sent.mk id (nthI l s.1))])))) else some (.out (.go s.2))) :
    loopF body (0, []) = some (.go (mkS id l)) := by
  have key : ∀ (r p : List It), p ++ r = l → loopF body ((p.length : Int), mkS id p) = some (.go (mkS id l)) := by
    intro r
    induction r with
    | nil =>
      intro p hp
      rw [List.append_nil] at hp
      subst hp
      refine loop_out ?_
      rw [hb, ltI_f (by simp only [lenL]; omega)]
      rfl
    | cons x r ih =>
      intro p hp
      have hlen : l.length = p.length + r.length + 1 := by rw [← hp]; simp; omega
      have h1 : body ((p.length : Int), mkS id p) = some (.go (((p ++ [x]).length : Int), mkS id (p ++ [x]))) := by
        rw [hb]
        simp only
        rw [ltI_t (by unfold lenL; omega), cond_true, need_t (by rw [← hp]; exact inb_mid p x r), need_t (appB_1 _ (by simp [mkS]; omega) (by omega)), succ_n _ (by omega)]
        have : nthI l (p.length : Int) = x := by rw [← hp]; exact nthI_mid p x r
        rw [this]
        simp [mkS, app_eq]
      rw [loop_go h1]
      exact ih (p ++ [x]) (by simpa using hp)
  exact key l [] rfl
theorem eall_ok (id : Int) {l : List It} (hl : l.length ≤ 1000000) : gEgressAll id l = some (mkS id l) := by
  unfold gEgressAll
  rw [all_gen hl (fun s => by unfold gEgressAll.loop1; rfl)]
  rfl

/-! ### The flows -/
def rowF (f : Fw) : Int × EgressFlow := (f.fId, ⟨qOf f.fQ, f.fVideo⟩)
/-- The map holds these flows, by rising numbers. -/
structure FR (m : List (Int × EgressFlow)) (F : List Fw) : Prop where
  perm : m.Perm (F.map rowF)
  rise : (F.map (·.fId)).Pairwise (· < ·)
  ok : ∀ f ∈ F, QOk f.fQ
  ids : ∀ f ∈ F, -9223372036854775808 ≤ f.fId ∧ f.fId ≤ 9223372036854775807
  len : F.length ≤ 1000

theorem keys_row (F : List Fw) : keysM (F.map rowF) = F.map (·.fId) := by simp [keysM, rowF, Function.comp_def]
theorem FR.keys {m : List (Int × EgressFlow)} {F : List Fw} (h : FR m F) : (keysM m).Perm (F.map (·.fId)) := by
  have := keysM_perm h.perm; rwa [keys_row] at this
theorem FR.nodup {m : List (Int × EgressFlow)} {F : List Fw} (h : FR m F) : (keysM m).Nodup :=
  h.keys.nodup_iff.2 (h.rise.imp fun h => by omega)
theorem FR.sort {m : List (Int × EgressFlow)} {F : List Fw} (h : FR m F) : sortL (keysM m) = F.map (·.fId) :=
  sortL_of h.keys (h.rise.imp fun h => by omega)
theorem FR.find {m : List (Int × EgressFlow)} {F : List Fw} (h : FR m F) {f : Fw} (hf : f ∈ F) : findM eqI f.fId m = some ⟨qOf f.fQ, f.fVideo⟩ :=
  findM_of h.nodup (h.perm.mem_iff.2 (List.mem_map.2 ⟨f, hf, rfl⟩))
theorem FR.miss {m : List (Int × EgressFlow)} {F : List Fw} (h : FR m F) {id : Int} (hf : id ∉ F.map (·.fId)) : findM eqI id m = none :=
  findM_no fun q => hf (h.keys.mem_iff.1 q)
theorem FR.keysB {m : List (Int × EgressFlow)} {F : List Fw} (h : FR m F) : KeysB (keysM m) :=
  KeysB_of (fun x hx => by
    obtain ⟨f, hf, rfl⟩ := List.mem_map.1 (h.keys.mem_iff.1 hx)
    exact h.ids f hf) (by have := h.keys.length_eq; have := h.len; simp only [List.length_map] at *; omega)

/-- Something waits, of this kind. -/
def waitsV (v : Bool) (f : Fw) : Bool := f.fVideo == v && !f.fQ.fL.isEmpty

theorem ids_ok {P : EgressOut} {F : List Fw} (h : FR P.fFlows F) (v : Bool) : gEgressOutIds P v = some ((F.filter (waitsV v)).map (·.fId)) := by
  have hlen := h.len
  have key : ∀ (r p : List Fw), p ++ r = F → loopF (gEgressOutIds.loop1 P v) ((p.length : Int), (p.filter (waitsV v)).map (·.fId)) = some (.go ((F.filter (waitsV v)).map (·.fId))) := by
    intro r
    induction r with
    | nil =>
      intro p hp
      rw [List.append_nil] at hp
      subst hp
      refine loop_out ?_
      unfold gEgressOutIds.loop1
      rw [h.sort, ltI_f (by simp [lenL])]
      rfl
    | cons f r ih =>
      intro p hp
      have hln : F.length = p.length + r.length + 1 := by rw [← hp]; simp; omega
      have hm : f ∈ F := by rw [← hp]; simp
      have hn : nthI (F.map (·.fId)) (p.length : Int) = f.fId := by
        rw [← hp, List.map_append, List.map_cons]
        have := nthI_mid (p.map (·.fId)) f.fId (r.map (·.fId))
        rwa [List.length_map] at this
      have h1 : gEgressOutIds.loop1 P v ((p.length : Int), (p.filter (waitsV v)).map (·.fId)) = some (.go (((p ++ [f]).length : Int), ((p ++ [f]).filter (waitsV v)).map (·.fId))) := by
        unfold gEgressOutIds.loop1
        simp only
        rw [h.sort, ltI_t (by simp [lenL]; omega), cond_true, need_t (show InB _ _ from ⟨by omega, by simp [lenL]; omega⟩), hn, h.find hm, optC_some, len_ok, need_t (some_u _), succ_n _ (by omega)]
        simp only [getD_so]
        rw [eqB_d]
        by_cases hv : f.fVideo = v
        · rw [decide_eq_true hv]
          by_cases he : f.fQ.fL = []
          · rw [he, ltI_f (by simp [lenL])]
            simp [pickB, waitsV, he]
          · rw [len0 he]
            have hw : waitsV v f = true := by simp [waitsV, hv, he]
            simp only [pickB, cond_true]
            rw [need_t (appB_1 _ (by have := List.length_filter_le (waitsV v) p; simp only [List.length_map]; omega) (by omega))]
            simp [hw, app_eq]
        · rw [decide_eq_false hv]
          simp [pickB, waitsV, hv]
      rw [loop_go h1]
      exact ih (p ++ [f]) (by simpa using hp)
  unfold gEgressOutIds
  rw [need_t h.keysB, show loopF (gEgressOutIds.loop1 P v) (0, []) = _ from key F [] rfl]
  rfl

/-- The first item of a flow. -/
def hd (f : Fw) : It := nthI f.fQ.fL 0
theorem hd_of {f : Fw} {v : Bool} (h : waitsV v f = true) : ∃ r, f.fQ.fL = hd f :: r := by
  unfold waitsV at h
  unfold hd
  cases hl : f.fQ.fL with
  | nil => rw [hl] at h; simp at h
  | cons x r => exact ⟨r, rfl⟩
theorem waitsV_v {f : Fw} {v : Bool} (h : waitsV v f = true) : f.fVideo = v := by
  unfold waitsV at h
  simp only [Bool.and_eq_true, beq_iff_eq] at h
  exact h.1

/-- The one whose first item came first. -/
def minFrom (m : Fw) : List Fw → Fw
  | [] => m
  | f :: r => minFrom (if (hd f).fTick < (hd m).fTick then f else m) r
theorem minFrom_mem : ∀ {r : List Fw} {m : Fw}, minFrom m r = m ∨ minFrom m r ∈ r
  | [], _ => .inl rfl
  | f :: r, m => by
    unfold minFrom
    split
    · rcases minFrom_mem (r := r) (m := f) with h | h
      · rw [h]; exact .inr (.head _)
      · exact .inr (.tail _ h)
    · rcases minFrom_mem (r := r) (m := m) with h | h
      · exact .inl h
      · exact .inr (.tail _ h)

theorem sound1_ok {P : EgressOut} {F : List Fw} (h : FR P.fFlows F) {f g : Fw} {v w : Bool} (hf : f ∈ F) (hg : g ∈ F) (hfw : waitsV v f = true) (hgw : waitsV w g = true) :
    gEgressOutSound1 f.fId g.fId P = some (subI .i64 (hd f).fTick (hd g).fTick) := by
  obtain ⟨r1, e1⟩ := hd_of hfw
  obtain ⟨r2, e2⟩ := hd_of hgw
  unfold gEgressOutSound1
  rw [h.find hf, optC_some, first_ok e1, bind_so, h.find hg, optC_some, first_ok e2]
  rfl

theorem sound_ok {P : EgressOut} {F : List Fw} (h : FR P.fFlows F) {f : Fw} {r : List Fw} (hs : F.filter (waitsV false) = f :: r) (ht : ∀ g ∈ F, ∀ x ∈ g.fQ.fL, 0 ≤ x.fTick ∧ x.fTick ≤ 1000000000000) :
    gEgressOutSound P ((F.filter (waitsV false)).map (·.fId)) = some (minFrom f r).fId := by
  have hall : ∀ g ∈ f :: r, g ∈ F ∧ waitsV false g = true := fun g hg => by rw [← hs] at hg; exact List.mem_filter.1 hg
  have hlen : (f :: r).length ≤ 1000 := by rw [← hs]; exact Nat.le_trans (List.length_filter_le _ _) h.len
  have htk : ∀ g ∈ f :: r, 0 ≤ (hd g).fTick ∧ (hd g).fTick ≤ 1000000000000 := fun g hg => by
    obtain ⟨s, e⟩ := hd_of (hall g hg).2
    exact ht g (hall g hg).1 _ (by rw [e]; exact .head _)
  have key : ∀ (q p : List Fw) (m : Fw), p ++ q = f :: r → m ∈ f :: r → loopF (gSlicesMinFuncIntIntAtEgressOutSound1.loop2 ((f :: r).map (·.fId)) P) ((p.length : Int), m.fId) = some (.go (minFrom m q).fId) := by
    intro q
    induction q with
    | nil =>
      intro p m hp _
      rw [List.append_nil] at hp
      subst hp
      refine loop_out ?_
      unfold gSlicesMinFuncIntIntAtEgressOutSound1.loop2
      rw [ltI_f (by simp [lenL])]
      rfl
    | cons g q ih =>
      intro p m hp hm
      have hln : (f :: r).length = p.length + q.length + 1 := by rw [← hp]; simp; omega
      have hg : g ∈ f :: r := by rw [← hp]; simp
      have hn : nthI ((f :: r).map (·.fId)) (p.length : Int) = g.fId := by
        rw [← hp, List.map_append, List.map_cons]
        have := nthI_mid (p.map (·.fId)) g.fId (q.map (·.fId))
        rwa [List.length_map] at this
      have hin : InB (p.length : Int) (lenL ((f :: r).map (·.fId))) := ⟨by omega, by simp only [lenL, List.length_map]; omega⟩
      have t1 := htk g hg
      have t2 := htk m hm
      have h1 : gSlicesMinFuncIntIntAtEgressOutSound1.loop2 ((f :: r).map (·.fId)) P ((p.length : Int), m.fId) = some (.go (((p ++ [g]).length : Int), (if (hd g).fTick < (hd m).fTick then g else m).fId)) := by
        unfold gSlicesMinFuncIntIntAtEgressOutSound1.loop2
        simp only
        rw [ltI_t (by exact hin.2), cond_true, need_t hin, hn, sound1_ok h (hall g hg).1 (hall m hm).1 (hall g hg).2 (hall m hm).2, bind_so, succ_n _ (by omega), subI_n (by omega) (by omega)]
        by_cases hc : (hd g).fTick < (hd m).fTick
        · rw [ltI_t (by omega), if_pos hc]
          simp only [cond_true, need_t hin, bind_so, flC_go]
          simp
        · rw [ltI_f (by omega), if_neg hc]
          simp only [cond_false, bind_so, flC_go]
          simp
      rw [loop_go h1]
      rw [ih (p ++ [g]) _ (by simpa using hp) (by split; exact hg; exact hm)]
      rfl
  unfold gEgressOutSound gSlicesMinFuncIntIntAtEgressOutSound1
  rw [hs, ltI_f (by simp [lenL]; omega)]
  simp only [cond_false, bind_so, flC_go]
  rw [need_t (show InB 0 (lenL ((f :: r).map (·.fId))) from inb_0 _ _), show nthI ((f :: r).map (·.fId)) 0 = f.fId from rfl, show loopF (gSlicesMinFuncIntIntAtEgressOutSound1.loop2 ((f :: r).map (·.fId)) P) (1, f.fId) = _ from key r [f] f rfl (.head _)]
  rfl
end Go.Proofs
