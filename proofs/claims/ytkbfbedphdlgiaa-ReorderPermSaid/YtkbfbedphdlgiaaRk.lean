/- Things that come in any order go out in theirs. No condition. -/
import Derived.Test.YtkbfbedphdlgiaaRz
namespace Go.Proofs
open Go.Ab

theorem getM_set {V : Type} {k : Int} {v z : V} : ∀ (m : List (Int × V)), getM eqI k z (setM eqI k v m) = v
  | [] => by simp [setM, getM, eqI_t]
  | e :: r => by
    unfold setM
    by_cases h : k = e.1
    · rw [eqI_t h, if_pos rfl]; simp [getM, eqI_t]
    · rw [eqI_f h, if_neg (by simp)]
      simp only [getM, eqI_f h, Bool.false_eq_true, if_false]
      exact getM_set r
theorem getM_set_ne {V : Type} {k k' : Int} {v z : V} (hk : k' ≠ k) : ∀ (m : List (Int × V)), getM eqI k' z (setM eqI k v m) = getM eqI k' z m
  | [] => by simp [setM, getM, eqI_f hk]
  | e :: r => by
    unfold setM
    by_cases h : k = e.1
    · rw [eqI_t h, if_pos rfl]
      have : k' ≠ e.1 := fun q => hk (q.trans h.symm)
      simp [getM, eqI_f hk, eqI_f this]
    · rw [eqI_f h, if_neg (by simp)]
      simp only [getM]
      rw [getM_set_ne hk r]

theorem and255 (a : Int) : bitsOp .and .i64 a 255 = a % 256 := and_mask' (j := 8) (by omega) a 255 rfl

/-- The number that is drawn. -/
def nOf (a : Int) : Int := 1 + a % 256 % 60
theorem nOf_eq (a : Int) : addI .i64 1 (remI (bitsOp .and .i64 a 255) 60) = nOf a := by
  have hm : 0 ≤ a % 256 ∧ a % 256 < 256 := ⟨Int.emod_nonneg _ (by omega), Int.emod_lt_of_pos _ (by omega)⟩
  have h4 : 0 ≤ a % 256 % 60 ∧ a % 256 % 60 < 60 := ⟨Int.emod_nonneg _ (by omega), Int.emod_lt_of_pos _ (by omega)⟩
  rw [and255]
  unfold remI nOf
  rw [Int.tmod_eq_emod_of_nonneg hm.1, addI_n (by omega) (by omega)]
theorem nOf_in (a : Int) : 1 ≤ nOf a ∧ nOf a ≤ 60 := by
  have h4 : 0 ≤ a % 256 % 60 ∧ a % 256 % 60 < 60 := ⟨Int.emod_nonneg _ (by omega), Int.emod_lt_of_pos _ (by omega)⟩
  unfold nOf; omega

/-- What is on the list, and what was seen. -/
structure Seen (o : List Int) (m : List (Int × Int)) : Prop where
  nd : o.Nodup
  rg : ∀ k ∈ o, 1 ≤ k ∧ k ≤ 60
  sn : ∀ k, k ∈ o ↔ getM eqI k 0 m ≠ 0
  nn : ∀ k, 0 ≤ getM eqI k 0 m

theorem draw_loop (l : List Int) : ∃ o m, loopF (gLaw09ReorderPerm.loop1 l) (0, [], []) = some (.go (o, m)) ∧ Seen o m ∧ o.length ≤ 60 := by
  obtain ⟨t, ht, o, m, h1, h2, rfl⟩ := loop_ends (body := gLaw09ReorderPerm.loop1 l)
    (fun s => ∃ i : Nat, s.1 = (i : Int) ∧ i ≤ 60 ∧ Seen s.2.1 s.2.2 ∧ s.2.1.length ≤ i ∧ ∀ k, getM eqI k 0 s.2.2 ≤ i)
    (fun t => ∃ o m, Seen o m ∧ o.length ≤ 60 ∧ t = .go (o, m)) (fun s => 60 - s.1.toNat)
    (fun s ⟨i, e1, e2, e3, e4, e5⟩ => by
      obtain ⟨s1, o, m⟩ := s
      simp only at e1 e3 e4 e5
      subst e1
      unfold gLaw09ReorderPerm.loop1
      by_cases hc : (i : Int) < lenL l ∧ i < 60
      · rw [ltI_t hc.1, ltI_t (by omega)]
        simp only [pickB_t, cond_true]
        have hin : InB (i : Int) (lenL l) := ⟨by omega, hc.1⟩
        rw [nOf_eq]
        generalize hn : nOf (nthI l (i : Int)) = n
        have hr := nOf_in (nthI l (i : Int))
        rw [hn] at hr
        have hg0 := e3.nn n
        have hg1 := e5 n
        rw [need_t hin, need_t (show NonZ 60 by decide), getM_set, addI_n (by omega) (by omega)]
        have hnn : ∀ k, 0 ≤ getM eqI k 0 (setM eqI n (getM eqI n 0 m + 1) m) := fun k => by
          by_cases q : k = n
          · subst q; rw [getM_set]; omega
          · rw [getM_set_ne q]; exact e3.nn k
        have hle : ∀ k, getM eqI k 0 (setM eqI n (getM eqI n 0 m + 1) m) ≤ ((i + 1 : Nat) : Int) := fun k => by
          by_cases q : k = n
          · subst q; rw [getM_set]; omega
          · rw [getM_set_ne q]; have := e5 k; omega
        by_cases h1 : getM eqI n 0 m + 1 = 1
        · rw [eqI_t h1]
          simp only [cond_true]
          rw [need_app8 _ (lenL_nn _) (by decide) (by rw [lenL_def]; omega)]
          simp only [bind_so, flC_go]
          rw [addI_n (by omega) (by omega)]
          have hno : n ∉ o := fun q => by have := (e3.sn n).1 q; omega
          refine ⟨⟨i + 1, by simp, by omega, ⟨?_, ?_, ?_, hnn⟩, by simp only [appL, List.length_append, List.length_cons, List.length_nil]; omega, hle⟩, by simp only; omega⟩
          · simp only [appL]
            refine List.nodup_append.2 ⟨e3.nd, by simp, fun a ha b hb => ?_⟩
            simp only [List.mem_singleton] at hb
            subst hb
            exact fun q => hno (q ▸ ha)
          · intro k hk
            simp only [appL, List.mem_append, List.mem_singleton] at hk
            rcases hk with hk | rfl
            · exact e3.rg k hk
            · exact hr
          · intro k
            simp only [appL, List.mem_append, List.mem_singleton]
            by_cases q : k = n
            · subst q
              rw [getM_set]
              exact ⟨fun _ => by omega, fun _ => .inr rfl⟩
            · rw [getM_set_ne q, ← e3.sn k]
              exact ⟨fun h => h.elim id fun h => absurd h q, .inl⟩
        · rw [eqI_f h1]
          simp only [cond_false, bind_so, flC_go]
          rw [addI_n (by omega) (by omega)]
          have hyes : n ∈ o := (e3.sn n).2 (by omega)
          refine ⟨⟨i + 1, by simp, by omega, ⟨e3.nd, e3.rg, ?_, hnn⟩, by simp only; omega, hle⟩, by simp only; omega⟩
          intro k
          by_cases q : k = n
          · subst q
            simp only
            rw [getM_set]
            exact ⟨fun _ => by omega, fun _ => hyes⟩
          · simp only
            rw [getM_set_ne q, ← e3.sn k]
      · have : pickB (ltI (i : Int) (lenL l)) (ltI (i : Int) 60) false = false := by
          rw [pickB_and, ltI_d, ltI_d, ← Bool.not_eq_true]
          simp only [Bool.and_eq_true, decide_eq_true_eq]
          omega
        simp only [this]
        exact ⟨o, m, e3, by omega, rfl⟩) (0, [], [])
    ⟨0, rfl, by omega, ⟨by simp, fun k hk => by simp at hk, fun k => by simp, fun k => by simp⟩, by simp, fun k => by simp⟩
  exact ⟨o, m, ht, h1, h2⟩

/-- All numbers from 1 to 60, each once. -/
structure AllOf (o : List Int) : Prop where
  nd : o.Nodup
  rg : ∀ k, k ∈ o ↔ 1 ≤ k ∧ k ≤ 60
  le : o.length ≤ 200

theorem rest_loop (v : List Int × List (Int × Int)) (h : Seen v.1 v.2) (hl : v.1.length ≤ 60) : ∃ o, loopF (gLaw09ReorderPerm.loop3 v) (1, v.1) = some (.go o) ∧ AllOf o := by
  obtain ⟨t, ht, o, h1, rfl⟩ := loop_ends (body := gLaw09ReorderPerm.loop3 v)
    (fun s => 1 ≤ s.1 ∧ s.1 ≤ 61 ∧ s.2.Nodup ∧ (∀ k ∈ s.2, 1 ≤ k ∧ k ≤ 60) ∧ (∀ k, 1 ≤ k → k < s.1 → k ∈ s.2) ∧ (∀ k, s.1 ≤ k → (k ∈ s.2 ↔ k ∈ v.1)) ∧ (s.2.length : Int) ≤ 60 + s.1)
    (fun t => ∃ o, AllOf o ∧ t = .go o) (fun s => (61 - s.1).toNat)
    (fun s ⟨e1, e2, e3, e4, e5, e6, e7⟩ => by
      obtain ⟨n, o⟩ := s
      simp only at e1 e2 e3 e4 e5 e6 e7
      unfold gLaw09ReorderPerm.loop3
      by_cases hc : n ≤ 60
      · rw [leI_t hc]
        simp only [cond_true]
        by_cases hz : getM eqI n 0 v.2 = 0
        · rw [eqI_t hz]
          simp only [cond_true]
          have hno : n ∉ o := fun q => ((h.sn n).1 ((e6 n (Int.le_refl _)).1 q)) hz
          rw [need_app8 _ (lenL_nn _) (by decide) (by rw [lenL_def]; omega)]
          simp only [bind_so, flC_go]
          rw [addI_n (by omega) (by omega)]
          refine ⟨⟨by simp only; omega, by simp only; omega, ?_, ?_, ?_, ?_, by simp only [appL, List.length_append, List.length_cons, List.length_nil]; omega⟩, by simp only; omega⟩
          · simp only [appL]
            refine List.nodup_append.2 ⟨e3, by simp, fun a ha b hb => ?_⟩
            simp only [List.mem_singleton] at hb
            subst hb
            exact fun q => hno (q ▸ ha)
          · intro k hk
            simp only [appL, List.mem_append, List.mem_singleton] at hk
            rcases hk with hk | rfl
            · exact e4 k hk
            · exact ⟨e1, hc⟩
          · intro k h0 h1
            simp only at h1
            simp only [appL, List.mem_append, List.mem_singleton]
            by_cases q : k = n
            · exact .inr q
            · exact .inl (e5 k h0 (by omega))
          · intro k h0
            simp only at h0
            simp only [appL, List.mem_append, List.mem_singleton]
            rw [e6 k (by omega)]
            exact ⟨fun q => q.elim id fun q => absurd q (by omega), .inl⟩
        · rw [eqI_f hz]
          simp only [cond_false, bind_so, flC_go]
          rw [addI_n (by omega) (by omega)]
          have hyes : n ∈ o := (e6 n (Int.le_refl _)).2 ((h.sn n).2 hz)
          refine ⟨⟨by simp only; omega, by simp only; omega, e3, e4, ?_, ?_, by simp only; omega⟩, by simp only; omega⟩
          · intro k h0 h1
            simp only at h1
            by_cases q : k = n
            · subst q; exact hyes
            · exact e5 k h0 (by omega)
          · intro k h0
            simp only at h0
            exact e6 k (by omega)
      · rw [leI_f hc]
        refine ⟨o, ⟨e3, fun k => ⟨e4 k, fun ⟨q1, q2⟩ => e5 k q1 (by omega)⟩, by omega⟩, rfl⟩) (1, v.1)
    ⟨by simp only; omega, by simp only; omega, h.nd, h.rg, fun k h0 h1 => by simp only at h1; omega, fun k _ => Iff.rfl, by simp only; omega⟩
  exact ⟨o, ht, h1⟩

/-- What goes out stands one by one. -/
theorem step_loop (r4 : List Antiphonref09Thing × Int × ReorderBuffer) (hl : r4.1.length ≤ 2000000) : ∀ (k i : Nat) (a : Int), r4.1.length - i = k → i ≤ r4.1.length → From a (r4.1.drop i) → 0 ≤ a → a + k ≤ 1000000 →
    loopF (gLaw09ReorderPerm.loop6 r4) ((i : Int), a) = some (.go (a + k)) := by
  intro k
  induction k with
  | zero =>
    intro i a hk hi hf _ _
    have hil : i = r4.1.length := by omega
    rw [loopF_eq]
    have : gLaw09ReorderPerm.loop6 r4 ((i : Int), a) = some (.out (.go a)) := by
      unfold gLaw09ReorderPerm.loop6
      rw [ltI_f (by rw [lenL_def]; simp only; omega)]; rfl
    rw [this]; simp
  | succ k ih =>
    intro i a hk hi hf ha0 ha1
    have hlt : i < r4.1.length := by omega
    have hin : InB (i : Int) (lenL r4.1) := ⟨by omega, by rw [lenL_def]; omega⟩
    rw [drop_cons' hlt] at hf
    rw [loopF_eq]
    have : gLaw09ReorderPerm.loop6 r4 ((i : Int), a) = some (.go (((i + 1 : Nat) : Int), a + 1)) := by
      unfold gLaw09ReorderPerm.loop6
      rw [ltI_t hin.2]
      simp only [cond_true]
      rw [need_t hin, neI_f hf.1, addI_n (by omega) (by omega), addI_n (by omega) (by omega)]; rfl
    rw [this]
    simp only
    rw [ih (i + 1) (a + 1) (by omega) (by omega) hf.2 (by omega) (by omega)]
    simp only [Int.natCast_add, Int.natCast_one, Option.some.injEq, Fl.go.injEq]; omega

theorem up_room {b : Int} : ∀ {L : List Thg} {n : Int}, Up n L → (∀ t ∈ L, t.fAt ≤ b) → n ≤ b → n + L.length ≤ b
  | [], n, _, _, h => by simpa using h
  | t :: r, n, h, hb, _ => by
    have h1 := hb t (.head _)
    have := up_room h.2 (fun u hu => hb u (.tail _ hu)) h1
    have := h.1
    simp only [List.length_cons, Int.natCast_add, Int.natCast_one]; omega

/-- What waits and what has gone out, of the numbers that have come. -/
structure PS (L : List Thg) (done : Int → Prop) (a : Int) : Prop where
  up : Up a L
  tk : ∀ t ∈ L, t.fAt ≤ 100000 ∧ t.fTick = 0
  all : ∀ k, ((∃ t ∈ L, t.fAt = k) ∨ (101 ≤ k ∧ k < a)) ↔ done (k - 100)
  lo : 101 ≤ a
  rg : ∀ k, done k → 1 ≤ k ∧ k ≤ 60

theorem PS.hi {L : List Thg} {done : Int → Prop} {a : Int} (h : PS L done a) : a ≤ 161 := by
  by_cases h1 : a ≤ 101
  · omega
  · have := h.rg _ ((h.all (a - 1)).1 (.inr ⟨by omega, by omega⟩))
    omega
theorem PS.at_ {L : List Thg} {done : Int → Prop} {a : Int} (h : PS L done a) : ∀ t ∈ L, t.fAt ≤ 160 := fun t ht => by
  have := h.rg _ ((h.all t.fAt).1 (.inl ⟨t, ht, rfl⟩))
  omega
theorem PS.inv {L : List Thg} {done : Int → Prop} {a : Int} (h : PS L done a) : Inv ⟨64, 10, true, a, L, 0⟩ := by
  have h1 := h.lo
  have h2 := h.hi
  have h3 : lenL L ≤ 64 := by
    rw [lenL_def]
    cases L with
    | nil => simp
    | cons t r =>
      have := h.at_ t (.head _)
      have := up_room h.up h.at_ (by have := h.up.1; omega)
      omega
  exact inv_at h.up (by omega) (by omega) rfl (by decide) (by decide) h.tk h3 (fun e => by cases e)

theorem perm_put {L : List Thg} {done : Int → Prop} {a n : Int} (h : PS L done a) (hn : ¬ done n) (h1 : 1 ≤ n) (h2 : n ≤ 60) :
    ∃ L' out, putS ⟨64, 10, true, a, L, 0⟩ (Antiphonref09Thing.mk (100 + n) ⟨#[]⟩ 0) = (⟨64, 10, true, a + out.length, L', 0⟩, out, 0) ∧ From a out ∧ PS L' (fun k => done k ∨ k = n) (a + out.length) ∧ out.length ≤ 100 := by
  generalize ht : Antiphonref09Thing.mk (100 + n) ⟨#[]⟩ 0 = t
  have hat : t.fAt = 100 + n := by rw [← ht]
  have htk : t.fTick = 0 := by rw [← ht]
  have hlo := h.lo
  have hhi := h.hi
  have hno : ¬ ((∃ u ∈ L, u.fAt = 100 + n) ∨ (101 ≤ 100 + n ∧ 100 + n < a)) := fun q => hn (by have := (h.all (100 + n)).1 q; rwa [show 100 + n - 100 = n by omega] at this)
  have hge : a ≤ t.fAt := by
    rw [hat]
    by_cases q : 100 + n < a
    · exact absurd (.inr ⟨by omega, q⟩) hno
    · omega
  have hh : hasL t.fAt L = false := by
    cases hq : hasL t.fAt L with
    | false => rfl
    | true =>
      obtain ⟨u, hu, e⟩ := hasL_t.1 hq
      exact absurd (.inl ⟨u, hu, e.trans hat⟩) hno
  have hup : Up (a - 1) (insL t L) := insL_up (h.up.weak (by omega)) (by omega) fun u hu e => hno (.inl ⟨u, hu, e.trans hat⟩)
  have hmem : ∀ u, u ∈ insL t L ↔ u = t ∨ u ∈ L := fun u => by
    rw [(insL_perm t L).mem_iff, List.mem_cons]
  have hle : ∀ u ∈ insL t L, u.fAt ≤ 160 := fun u hu => by
    rcases (hmem u).1 hu with rfl | hu
    · omega
    · exact h.at_ u hu
  obtain ⟨q1, q2, q3, q4⟩ := runL_spec (insL t L) a hup
  have hroom := up_room hup hle (by omega)
  have hlen := runL_len hup
  have hil := insL_len t L
  have hb : begS ⟨64, 10, true, a, L, 0⟩ t = ⟨64, 10, true, a, L, 0⟩ := rfl
  refine ⟨(runL a (insL t L)).2.2, (runL a (insL t L)).1, ?_, q4, ⟨by rw [← q3]; exact q1, ?_, ?_, by omega, ?_⟩, by omega⟩
  · unfold putS
    rw [hb]
    simp only
    rw [if_neg (by omega), hh, if_neg (by simp)]
    have hr : runS (addS ⟨64, 10, true, a, L, 0⟩ t) = (⟨64, 10, true, a + (runL a (insL t L)).1.length, (runL a (insL t L)).2.2, 0⟩, (runL a (insL t L)).1) := by
      simp only [runS, addS, q3]
    rw [hr]
    simp only
    rw [whileS_no (by simp only [cMost, decide_eq_false_iff_not]; rw [lenL_def]; omega)]
    simp
  · intro u hu
    have hu' : u ∈ insL t L := by rw [q2]; exact List.mem_append_right _ hu
    rcases (hmem u).1 hu' with rfl | hu'
    · exact ⟨by omega, htk⟩
    · exact h.tk u hu'
  · intro k
    have hfrom : ∀ {l : List Thg} {m : Int}, From m l → ((∃ u ∈ l, u.fAt = k) ↔ m ≤ k ∧ k < m + l.length) := by
      intro l
      induction l with
      | nil => intro m _; simp
      | cons u r ih =>
        intro m hf
        have := ih hf.2
        simp only [List.mem_cons, exists_eq_or_imp, List.length_cons, Int.natCast_add, Int.natCast_one]
        rw [this, hf.1]; omega
    have h3 := hfrom q4
    have h4 : (∃ u ∈ insL t L, u.fAt = k) ↔ (∃ u ∈ (runL a (insL t L)).1, u.fAt = k) ∨ ∃ u ∈ (runL a (insL t L)).2.2, u.fAt = k := by
      conv => lhs; rw [q2]
      simp only [List.mem_append, or_and_right, exists_or]
    have h5 : (∃ u ∈ insL t L, u.fAt = k) ↔ k = 100 + n ∨ ∃ u ∈ L, u.fAt = k := by
      constructor
      · rintro ⟨u, hu, e⟩
        rcases (hmem u).1 hu with rfl | hu
        · exact .inl (e.symm.trans hat)
        · exact .inr ⟨u, hu, e⟩
      · rintro (e | ⟨u, hu, e⟩)
        · exact ⟨t, (hmem t).2 (.inl rfl), hat.trans e.symm⟩
        · exact ⟨u, (hmem u).2 (.inr hu), e⟩
    have h6 := h.all k
    rw [h5, h3] at h4
    constructor
    · rintro (q | ⟨q5, q6⟩)
      · rcases h4.2 (.inr q) with e | e
        · exact .inr (by omega)
        · exact .inl (h6.1 (.inl e))
      · by_cases q7 : k < a
        · exact .inl (h6.1 (.inr ⟨q5, q7⟩))
        · rcases h4.2 (.inl ⟨by omega, q6⟩) with e | e
          · exact .inr (by omega)
          · exact .inl (h6.1 (.inl e))
    · rintro (q | q)
      · rcases h6.2 q with e | ⟨q5, q6⟩
        · rcases h4.1 (.inr e) with ⟨q7, q8⟩ | q7
          · exact .inr ⟨by omega, q8⟩
          · exact .inl q7
        · exact .inr ⟨q5, by omega⟩
      · rcases h4.1 (.inl (by omega)) with ⟨q7, q8⟩ | q7
        · exact .inr ⟨by omega, q8⟩
        · exact .inl q7
  · rintro k (q | rfl)
    · exact h.rg k q
    · exact ⟨h1, h2⟩

theorem put_loop (o : List Int) (ho : AllOf o) (b0 : ReorderBuffer) (hr0 : Rel b0 ⟨64, 10, true, 101, [], 0⟩) :
    ∃ b L, loopF (gLaw09ReorderPerm.loop5 o) (0, 101, b0.fOf, b0.fConfig, b0.fBegun, b0.fNext, b0.fLost) = some (.go (161, b.fOf, b.fConfig, b.fBegun, b.fNext, b.fLost)) ∧ Rel b ⟨64, 10, true, 161, L, 0⟩ ∧ L = [] := by
  obtain ⟨t, ht, b, L, a, h1, h2, rfl⟩ := loop_ends (body := gLaw09ReorderPerm.loop5 o)
    (fun s => ∃ (i : Nat) (a : Int) (b : ReorderBuffer) (L : List Thg), s = ((i : Int), a, b.fOf, b.fConfig, b.fBegun, b.fNext, b.fLost) ∧ i ≤ o.length ∧ Rel b ⟨64, 10, true, a, L, 0⟩ ∧ PS L (fun k => k ∈ o.take i) a)
    (fun t => ∃ (b : ReorderBuffer) (L : List Thg) (a : Int), Rel b ⟨64, 10, true, a, L, 0⟩ ∧ PS L (fun k => k ∈ o) a ∧ t = .go (a, b.fOf, b.fConfig, b.fBegun, b.fNext, b.fLost)) (fun s => o.length - s.1.toNat)
    (fun s ⟨i, a, b, L, e, hi, hrel, hps⟩ => by
      subst e
      have hol := ho.le
      unfold gLaw09ReorderPerm.loop5
      by_cases hc : i < o.length
      · have hin : InB (i : Int) (lenL o) := ⟨by omega, by rw [lenL_def]; omega⟩
        simp only
        rw [ltI_t hin.2]
        simp only [cond_true]
        have hn : nthI o (i : Int) = o[i] := by simp [nthI, hc]
        have hmem : o[i] ∈ o := List.getElem_mem hc
        obtain ⟨g1, g2⟩ := (ho.rg _).1 hmem
        have hnot : ¬ o[i] ∈ o.take i := fun q => by
          have hp := List.pairwise_iff_getElem.1 ho.nd
          obtain ⟨j, hj, e⟩ := List.mem_iff_getElem.1 q
          simp only [List.length_take] at hj
          simp only [List.getElem_take] at e
          exact hp j i (by omega) hc (by omega) e
        obtain ⟨L', out, p1, p2, p3, p4⟩ := perm_put hps hnot g1 g2
        obtain ⟨b', k1, k2⟩ := oput hrel hps.inv (good_of (k := 100 + o[i]) (by omega) (by omega))
        rw [p1] at k1 k2
        have eb : (ReorderBuffer.mk b.fConfig b.fBegun b.fNext b.fOf b.fLost) = b := rfl
        have ha := hps.lo
        have ha2 := hps.hi
        rw [need_t hin, eb, hn, addI_n (a := 100) (by omega) (by omega), k1]
        simp only [bind_so, neI_f rfl, cond_false]
        have hsl := step_loop (out, 0, b') (by simp only; omega) out.length 0 a (by simp) (by omega) (by simpa using p2) (by omega) (by omega)
        simp only [Int.natCast_zero] at hsl
        rw [hsl]
        simp only [bind_so, flC_go]
        rw [addI_n (by omega) (by omega)]
        refine ⟨⟨i + 1, a + out.length, b', L', by simp, by omega, k2, ⟨p3.up, p3.tk, fun k => (p3.all k).trans ?_, p3.lo, fun k hk => (ho.rg k).1 (List.mem_of_mem_take hk)⟩⟩, by simp only; omega⟩
        rw [List.take_succ_eq_append_getElem hc, List.mem_append, List.mem_singleton]
      · have hio : i = o.length := by omega
        subst hio
        simp only
        rw [ltI_f (by rw [lenL_def]; omega)]
        refine ⟨b, L, a, hrel, ?_, rfl⟩
        simpa using hps)
    (0, 101, b0.fOf, b0.fConfig, b0.fBegun, b0.fNext, b0.fLost)
    ⟨0, 101, b0, [], rfl, by omega, hr0, ⟨trivial, (fun t ht => by cases ht), (fun k => by simp), by omega, (fun k hk => by simp at hk)⟩⟩
  have hlo := h2.lo
  have hhi := h2.hi
  have ha : a = 161 := by
    by_cases q : a = 161
    · exact q
    · rcases (h2.all a).2 ((ho.rg _).2 ⟨by omega, by omega⟩) with ⟨t, ht, e⟩ | ⟨_, q2⟩
      · have := h2.up.mem t ht
        omega
      · omega
  subst ha
  have hL : L = [] := by
    cases L with
    | nil => rfl
    | cons t r =>
      have := h2.at_ t (.head _)
      have := h2.up.1
      omega
  exact ⟨b, L, ht, h1, hL⟩

theorem reorderPerm_true (l : List Int) : gLaw09ReorderPerm l = some true := by
  unfold gLaw09ReorderPerm
  rw [awake_ok]
  simp only [bind_so, notB_t, cond_false]
  rw [new_ok (by decide) (by decide) (by decide) (by decide)]
  simp only [bind_so, optC_some, neI_f rfl, cond_false]
  obtain ⟨b1, p1, r1⟩ := oput (newS_rel 64 10) (newS_inv (by decide) (by decide)) (good_of (k := 100) (by decide) (by decide))
  have hput : putS (newS 64 10) (Antiphonref09Thing.mk 100 ⟨#[]⟩ 0) = (⟨64, 10, true, 101, [], 0⟩, [Antiphonref09Thing.mk 100 ⟨#[]⟩ 0], 0) := by
    simp [putS, begS, newS, hasL, runS, addS, insL, runL, whileS]
  rw [hput] at p1 r1
  rw [p1]
  simp only [bind_so]
  obtain ⟨o, m, d1, d2, d3⟩ := draw_loop l
  rw [d1]
  simp only [bind_so, flC_go]
  obtain ⟨o2, g1, g2⟩ := rest_loop (o, m) d2 d3
  rw [g1]
  simp only [bind_so, flC_go]
  obtain ⟨b, L, k1, k2, hL⟩ := put_loop o2 g2 b1 r1
  subst hL
  rw [k1]
  simp only [bind_so, flC_go]
  have hinv : Inv ⟨64, 10, true, 161, [], 0⟩ := inv_at trivial (by decide) (by decide) rfl (by decide) (by decide) (fun t ht => by cases ht) (by decide) (fun e => by cases e)
  obtain ⟨b2, p2, r2⟩ := oput k2 hinv (good_of (k := 130) (by decide) (by decide))
  have hput2 : putS ⟨64, 10, true, 161, [], 0⟩ (Antiphonref09Thing.mk 130 ⟨#[]⟩ 0) = (⟨64, 10, true, 161, [], 0⟩, [], 13) := by
    simp [putS, begS]
  rw [hput2] at p2 r2
  have eb : (ReorderBuffer.mk b.fConfig b.fBegun b.fNext b.fOf b.fLost) = b := rfl
  rw [eb, p2]
  simp only [bind_so, olen r2, olost r2, Option.isSome_some, getD_so]
  rw [need_t (under_of trivial), need_t (under_of trivial)]
  rfl
end Go.Proofs
