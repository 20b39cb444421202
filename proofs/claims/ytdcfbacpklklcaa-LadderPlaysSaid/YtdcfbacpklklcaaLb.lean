/- New ladders, and the laws of the ladder, over the plain functions. No condition. -/
import Derived.Test.YtdcfbacpklklcaaLa
import Derived.Test.YtdcfbacpklklcaaLwD
import Derived.Test.YtdcfbacpklklcaaLhD
import Derived.Test.YtdcfbacpklklcaaLmD
import Derived.Test.YtdcfbacpklklcaaLpD
namespace Go.Proofs
open Go.Ab

def CfgOk (c : LadderConfig) : Prop := 1 ≤ c.fDown ∧ c.fDown ≤ 1048576 ∧ 1 ≤ c.fUp ∧ c.fUp ≤ 1048576 ∧ 0 ≤ c.fSpare ∧ c.fSpare ≤ 100
instance (c : LadderConfig) : Decidable (CfgOk c) := by unfold CfgOk; infer_instance
theorem check_eq (c : LadderConfig) : gLadderConfigCheck c = some (if CfgOk c then 0 else 5) := by
  unfold gLadderConfigCheck
  simp only [pickB_or, ltI_d]
  cases q : (decide (c.fDown < 1) || decide (1048576 < c.fDown) || decide (c.fUp < 1) || decide (1048576 < c.fUp) || decide (c.fSpare < 0) || decide (100 < c.fSpare)) with
  | true =>
    have : ¬ CfgOk c := by
      simp at q; unfold CfgOk; omega
    rw [if_neg this]; rfl
  | false =>
    have : CfgOk c := by
      simp at q; unfold CfgOk; omega
    rw [if_pos this]; rfl

def NewOk (c : LadderConfig) (l : List Int) : Prop := CfgOk c ∧ (1 ≤ lenL l ∧ lenL l ≤ 3) ∧ sortedP l ∧ 0 ≤ nthI l 0 ∧ nthI l (lenL l - 1) ≤ 1099511627776
open Classical in
theorem new_eq (c : LadderConfig) (m : Int) (l : List Int) (hl : l.length < 1000) :
    gLadderNew c m l = some (if NewOk c l then (some (.mk c l (mostF m (lenL l)) (mostF m (lenL l)) 0 0 0), 0) else (none, 5)) := by
  unfold gLadderNew
  rw [check_eq, sorted_eq l hl]
  have hs := lenL_nn l
  have hle : lenL l < 1000 := by unfold lenL; omega
  by_cases hc : CfgOk c
  · simp only [if_pos hc, bind_so, neI_d, pickB_or, ltI_d, notB_d, Option.isSome_some, under_true, need_true, getD_so]
    by_cases h1 : 1 ≤ lenL l ∧ lenL l ≤ 3
    · have a1 : decide (lenL l < 1) = false := decide_eq_false (by omega)
      have a2 : decide (3 < lenL l) = false := decide_eq_false (by omega)
      have b0 : InB 0 (lenL l) := ⟨by omega, by omega⟩
      have b1 : InB (subI .i64 (lenL l) 1) (lenL l) := by rw [subI_n (by omega) (by omega)]; exact ⟨by omega, by omega⟩
      have e1 : subI .i64 (lenL l) 1 = lenL l - 1 := subI_n (by omega) (by omega)
      rw [need_t (under_of b0), need_t (under_of b1)]
      simp only [a1, a2, e1, Bool.false_or, not_true, ne_eq, decide_false, cond_false]
      by_cases h2 : sortedP l ∧ 0 ≤ nthI l 0 ∧ nthI l (lenL l - 1) ≤ 1099511627776
      · have hn : NewOk c l := ⟨hc, h1, h2⟩
        obtain ⟨s1, s2, s3⟩ := h2
        have a3 : decide (nthI l 0 < 0) = false := decide_eq_false (by omega)
        have a4 : decide (1099511627776 < nthI l (lenL l - 1)) = false := decide_eq_false (by omega)
        simp only [s1, a3, a4, decide_true, Bool.not_true, Bool.or_false, cond_false]
        rw [need_t (show AppB 0 (lenL l) 8 by unfold AppB; omega), want_eq h1.2 (by simp) (by simp)]
        have hm : 0 ≤ mostF m (lenL l) := by unfold mostF; omega
        simp [wantF, hm, hn]
      · have hn : ¬ NewOk c l := fun q => h2 q.2.2
        have e : (!(decide (sortedP l)) || decide (nthI l 0 < 0) || decide (1099511627776 < nthI l (lenL l - 1))) = true := by
          by_cases s1 : sortedP l
          · by_cases s2 : 0 ≤ nthI l 0
            · by_cases s3 : nthI l (lenL l - 1) ≤ 1099511627776
              · exact absurd ⟨s1, s2, s3⟩ h2
              · simp; right; omega
            · simp; left; right; omega
          · simp [s1]
        rw [e]
        simp [hn]
    · have hn : ¬ NewOk c l := fun q => h1 q.2.1
      have e : (decide (lenL l < 1) || decide (3 < lenL l)) = true := by simp; omega
      rw [e]
      simp only [Bool.true_or, cond_true]
      rw [need_t (show Under true false _ from fun q => by cases q), need_t (show Under true false _ from fun q => by cases q)]
      simp [hn]
  · have hn : ¬ NewOk c l := fun q => hc q.1
    simp [hc, hn, neI_d]

theorem mem_nthI {l : List Int} {i : Int} (h0 : 0 ≤ i) (h1 : i < lenL l) : nthI l i ∈ l := by
  unfold lenL at h1
  unfold nthI
  have : i.toNat < l.length := by omega
  rw [List.getD_eq_getElem?_getD, List.getElem?_eq_getElem this]
  exact List.getElem_mem this
theorem nthI_nat (l : List Int) (n : Nat) : nthI l (n : Int) = l.getD n 0 := by unfold nthI; rfl
theorem sorted_app {l : List Int} {x : Int} (h : sortedP l) (hx : ∀ e ∈ l, e ≤ x) : sortedP (appL l [x]) := by
  intro i hi
  unfold appL at hi ⊢
  rw [List.length_append, List.length_singleton] at hi
  by_cases e : i + 1 < l.length
  · have := h i e
    simp only [List.getD_eq_getElem?_getD] at this ⊢
    rw [List.getElem?_append_left (by omega), List.getElem?_append_left e]; exact this
  · have e2 : i + 1 = l.length := by omega
    have e3 : l[i]? = some (l[i]'(by omega)) := List.getElem?_eq_getElem (by omega)
    simp only [List.getD_eq_getElem?_getD]
    rw [List.getElem?_append_left (by omega), e2, List.getElem?_append_right (Nat.le_refl _), e3]
    simp
    exact hx _ (List.getElem_mem _)

theorem awake_t : gLaw23Awake = some true := by
  unfold gLaw23Awake
  have hn : NewOk (LadderConfig.mk 2 3 1) [10, 50] := by
    refine ⟨by decide, by decide, ?_, by decide, by decide⟩
    intro i hi
    have : i = 0 := by simp at hi; omega
    subst this; decide
  rw [new_eq _ _ _ (by decide), if_pos hn]
  have hl : lenL ([10, 50] : List Int) = 2 := by decide
  have hm : mostF 1 2 = 1 := by decide
  have h0 : LadOk (.mk (.mk 2 3 1) [10, 50] 1 1 0 0 0) 0 := by
    refine ⟨by decide, by decide, fun i h1 h2 => ?_, by decide, by decide, by decide, by decide, by decide, by decide, by decide, by decide, by decide, by decide, by decide⟩
    have := mem_nthI h1 h2
    have e : ∀ z ∈ ([10, 50] : List Int), 0 ≤ z ∧ z ≤ 1099511627776 := by decide
    exact e _ this
  have t1 : gLadderLadderTick (.mk (.mk 2 3 1) [10, 50] 1 1 0 0 0) 20 = some (false, .mk (.mk 2 3 1) [10, 50] 1 1 1 0 0) := by
    rw [tick_eq h0 (by decide)]; rfl
  have k1 : LadOk (.mk (.mk 2 3 1) [10, 50] 1 1 1 0 0) 1 := tick_ok h0 20
  have t2 : gLadderLadderTick (.mk (.mk 2 3 1) [10, 50] 1 1 1 0 0) 20 = some (true, .mk (.mk 2 3 1) [10, 50] 0 1 0 0 1) := by
    rw [tick_eq k1 (by decide)]; rfl
  have k2 : LadOk (.mk (.mk 2 3 1) [10, 50] 0 1 0 0 1) 2 := tick_ok k1 20
  have t3 : gLadderLadderTick (.mk (.mk 2 3 1) [10, 50] 0 1 0 0 1) 55 = some (false, .mk (.mk 2 3 1) [10, 50] 0 1 0 1 1) := by
    rw [tick_eq k2 (by decide)]; rfl
  have k3 : LadOk (.mk (.mk 2 3 1) [10, 50] 0 1 0 1 1) 3 := tick_ok k2 55
  have t4 : gLadderLadderTick (.mk (.mk 2 3 1) [10, 50] 0 1 0 1 1) 55 = some (false, .mk (.mk 2 3 1) [10, 50] 0 1 0 2 1) := by
    rw [tick_eq k3 (by decide)]; rfl
  have k4 : LadOk (.mk (.mk 2 3 1) [10, 50] 0 1 0 2 1) 4 := tick_ok k3 55
  have t5 : gLadderLadderTick (.mk (.mk 2 3 1) [10, 50] 0 1 0 2 1) 55 = some (true, .mk (.mk 2 3 1) [10, 50] 1 1 0 0 2) := by
    rw [tick_eq k4 (by decide)]; rfl
  simp [hl, hm, gLadderLadderAt, t1, t2, t3, t4, t5, eqI_d]

structure NdOk (n : List Int) : Prop where
  n0 : 1 ≤ lenL n
  n1 : lenL n ≤ 3
  so : sortedP n
  nd : ∀ e ∈ n, 0 ≤ e ∧ e ≤ 1000
theorem needs_ok (x : List Int) : ∃ n, gLaw23Needs x = some n ∧ NdOk n := by
  unfold gLaw23Needs
  obtain ⟨t, ht, v, rfl, hv⟩ := loopF_ends (body := gLaw23Needs.loop1 x)
    (fun s => 0 ≤ s.1 ∧ s.1 ≤ 3 ∧ lenL s.2.2 = s.1 ∧ 0 ≤ s.2.1 ∧ s.2.1 ≤ 64 * s.1 ∧ (∀ e ∈ s.2.2, 0 ≤ e ∧ e ≤ s.2.1) ∧ sortedP s.2.2)
    (fun t => ∃ v : List Int, t = .go v ∧ lenL v ≤ 3 ∧ (∀ e ∈ v, 0 ≤ e ∧ e ≤ 1000) ∧ sortedP v)
    (fun s => (3 - s.1).toNat) (fun s ⟨h0, h1, h2, h3, h4, h5, h6⟩ => by
      unfold gLaw23Needs.loop1
      simp only [pickB_and, ltI_d]
      by_cases hc : s.1 < lenL x ∧ s.1 < 3
      · have e : (decide (s.1 < lenL x) && decide (s.1 < 3)) = true := by simp [hc]
        rw [e, cond_true, need_t (show InB s.1 (lenL x) from ⟨h0, hc.1⟩), need_t (show AppB (lenL s.2.2) 1 8 by unfold AppB; omega), and_mask' (j := 6) (by omega) _ _ (by decide)]
        have hm := Int.emod_nonneg (nthI x s.1) (b := 2 ^ 6) (by decide)
        have hm2 := Int.emod_lt_of_pos (nthI x s.1) (b := 2 ^ 6) (by decide)
        rw [addI_n (a := s.1) (by omega) (by omega), addI_n (a := s.2.1) (by omega) (by omega)]
        refine ⟨_, rfl, ⟨by show 0 ≤ s.1 + 1; omega, by show s.1 + 1 ≤ 3; omega, ?_, ?_, ?_, ?_, ?_⟩, ?_⟩
        · simp [h2]
        · show 0 ≤ s.2.1 + _; omega
        · show s.2.1 + _ ≤ 64 * (s.1 + 1); omega
        · intro e he
          unfold appL at he
          rcases List.mem_append.1 he with he | he
          · have := h5 e he
            show 0 ≤ e ∧ e ≤ s.2.1 + _
            omega
          · simp at he; subst he
            show 0 ≤ s.2.1 + _ ∧ s.2.1 + _ ≤ s.2.1 + _
            omega
        · exact sorted_app h6 fun e he => by have := h5 e he; omega
        · show (3 - (s.1 + 1)).toNat < (3 - s.1).toNat
          omega
      · have e : (decide (s.1 < lenL x) && decide (s.1 < 3)) = false := by simp; omega
        rw [e, cond_false]
        exact ⟨_, rfl, _, rfl, by omega, fun e he => by have := h5 e he; omega, h6⟩) (0, 0, []) ⟨by simp, by simp, by simp, by simp, by simp, by simp, fun i h => by simp at h⟩
  rw [ht, bind_so, flC_go, eqI_d]
  by_cases h : lenL v = 0
  · rw [decide_eq_true h, cond_true]
    exact ⟨_, rfl, by decide, by decide, fun i h => by simp at h, by simp⟩
  · rw [decide_eq_false h, cond_false]
    have := lenL_nn v
    exact ⟨_, rfl, by omega, hv.1, hv.2.2, hv.2.1⟩

theorem mask3 (a : Int) : ∃ b, bitsOp .and .i64 a 7 = b ∧ 0 ≤ b ∧ b ≤ 7 := by
  refine ⟨_, and_mask' (j := 3) (by omega) a 7 (by decide), Int.emod_nonneg _ (by decide), ?_⟩
  have := Int.emod_lt_of_pos a (b := 2 ^ 3) (by decide)
  omega
theorem nd_new {c : LadderConfig} {n : List Int} (hc : CfgOk c) (h : NdOk n) : NewOk c n := by
  have a := h.nd _ (mem_nthI (i := 0) (by omega) (by have := h.n0; omega))
  have b := h.nd _ (mem_nthI (i := lenL n - 1) (by have := h.n0; omega) (by omega))
  exact ⟨hc, ⟨h.n0, h.n1⟩, h.so, a.1, by omega⟩
theorem nd_len {n : List Int} (h : NdOk n) : n.length < 1000 := by have := h.n1; unfold lenL at this; omega
theorem nd_lad {c : LadderConfig} {n : List Int} (hc : CfgOk c) (h : NdOk n) (m : Int) : LadOk (.mk c n (mostF m (lenL n)) (mostF m (lenL n)) 0 0 0) 0 := by
  have := h.n0
  have hm : 0 ≤ mostF m (lenL n) ∧ mostF m (lenL n) < lenL n := by unfold mostF; omega
  refine ⟨h.n0, h.n1, fun i h0 h1 => ?_, hm.1, Int.le_refl _, hm.2, by simp, by simp, by simp, by simp, by simp, by simp, hc.2.2.2.2.1, hc.2.2.2.2.2⟩
  have := h.nd _ (mem_nthI h0 h1)
  exact ⟨this.1, Int.le_trans this.2 (by decide)⟩
end Go.Proofs
