/- The law LadderMay holds of its plain function. No condition. -/
import Derived.Test.YtdcfbacpklklcaaLc
namespace Go.Proofs
open Go.Ab

def ElOk (v : List Int) (i : Int) : Prop := 0 ≤ nthI v i ∧ nthI v i ≤ 1099511627776 ∧ (0 < i → nthI v (i - 1) ≤ nthI v i)
def AllOk (v : List Int) (n : Int) : Prop := ∀ i, 0 ≤ i → i < n → ElOk v i
open Classical in
def mayI (v : List Int) (m0 : Bool) (s : Int × Bool) : Prop := 0 ≤ s.1 ∧ s.1 ≤ lenL v ∧ s.2 = (m0 && decide (AllOk v s.1))
open Classical in
theorem may_round (v : List Int) (m0 : Bool) (hv : lenL v ≤ 5) (s : Int × Bool) (hI : mayI v m0 s) :
    RoundP (mayI v m0) (fun t : Fl Bool Bool => t = .go (m0 && decide (AllOk v (lenL v)))) (fun s => (lenL v - s.1).toNat) s (gLaw23LadderMay.loop2 v s) := by
  obtain ⟨i, m⟩ := s
  obtain ⟨h0, h1, h2⟩ := hI
  simp only at h0 h1 h2
  unfold gLaw23LadderMay.loop2
  dsimp only
  by_cases hc : i < lenL v
  case neg =>
    have : i = lenL v := by omega
    subst this
    rw [ltI_d, decide_eq_false hc, cond_false]
    show Fl.go m = Fl.go _
    rw [h2]
  have b : InB i (lenL v) := ⟨h0, hc⟩
  rw [show ltI i (lenL v) = true from decide_eq_true hc, cond_true, need_t b, need_t (show Under (ltI 0 i) true (Under _ false (InB (subI .i64 i 1) (lenL v))) from fun q _ => by
    have := of_decide_eq_true q
    rw [subI_n (by omega) (by omega)]; exact ⟨by omega, by omega⟩), subI_n (a := i) (by omega) (by omega), addI_n (by omega) (by omega)]
  have step : AllOk v (i + 1) ↔ AllOk v i ∧ ElOk v i := by
    constructor
    · exact fun h => ⟨fun j h3 h4 => h j h3 (by omega), h i h0 (by omega)⟩
    · rintro ⟨h3, h4⟩ j h5 h6
      by_cases e : j = i
      · subst e; exact h4
      · exact h3 j h5 (by omega)
  by_cases he : ElOk v i
  · have e : pickB (pickB (ltI (nthI v i) 0) true (ltI 1099511627776 (nthI v i))) true (pickB (ltI 0 i) (ltI (nthI v i) (nthI v (i - 1))) false) = false := by
      obtain ⟨a1, a2, a3⟩ := he
      simp only [pickB_or, pickB_and, ltI_d]
      simp
      exact ⟨⟨a1, a2⟩, a3⟩
    rw [e, cond_false]
    refine ⟨⟨by dsimp only; omega, by dsimp only; omega, ?_⟩, by dsimp only; omega⟩
    show m = (m0 && decide (AllOk v (i + 1)))
    rw [h2]
    by_cases ha : AllOk v i
    · simp [ha, step.2 ⟨ha, he⟩]
    · have : ¬ AllOk v (i + 1) := fun q => ha (step.1 q).1
      simp [ha, this]
  · have e : pickB (pickB (ltI (nthI v i) 0) true (ltI 1099511627776 (nthI v i))) true (pickB (ltI 0 i) (ltI (nthI v i) (nthI v (i - 1))) false) = true := by
      simp only [pickB_or, pickB_and, ltI_d]
      cases q : (decide (nthI v i < 0) || decide (1099511627776 < nthI v i) || (decide (0 < i) && decide (nthI v i < nthI v (i - 1)))) with
      | true => rfl
      | false =>
        simp at q
        exact absurd ⟨q.1.1, q.1.2, q.2⟩ he
    rw [e, cond_true]
    refine ⟨⟨by dsimp only; omega, by dsimp only; omega, ?_⟩, by dsimp only; omega⟩
    show false = (m0 && decide (AllOk v (i + 1)))
    have : ¬ AllOk v (i + 1) := fun q => he (step.1 q).2
    simp [this]
open Classical in
theorem may_loop (v : List Int) (m0 : Bool) (hv : lenL v ≤ 5) : loopF (gLaw23LadderMay.loop2 v) (0, m0) = some (.go (m0 && decide (AllOk v (lenL v)))) := by
  have h : AllOk v 0 := fun i h1 h2 => by omega
  obtain ⟨t, ht, rfl⟩ := loop_ends (mayI v m0) _ _ (may_round v m0 hv) (0, m0) ⟨by simp, lenL_nn v, by simp [h]⟩
  exact ht
theorem all_iff (c : LadderConfig) (v : List Int) : NewOk c v ↔ CfgOk c ∧ (1 ≤ lenL v ∧ lenL v ≤ 3) ∧ AllOk v (lenL v) := by
  unfold NewOk
  constructor
  · rintro ⟨hc, ⟨h1, h2⟩, hs, h3, h4⟩
    refine ⟨hc, ⟨h1, h2⟩, ?_⟩
    have s0 : (1 : Int) < lenL v → nthI v 0 ≤ nthI v 1 := fun h => by have := hs 0 (by unfold lenL at h; omega); exact this
    have s1 : (2 : Int) < lenL v → nthI v 1 ≤ nthI v 2 := fun h => by have := hs 1 (by unfold lenL at h; omega); exact this
    intro i i0 i1
    have hl : lenL v = 1 ∨ lenL v = 2 ∨ lenL v = 3 := by omega
    have hi : i = 0 ∨ i = 1 ∨ i = 2 := by omega
    unfold ElOk
    rcases hl with hl | hl | hl <;> rw [hl] at h4 i1 s0 s1 <;> rcases hi with rfl | rfl | rfl <;> simp at * <;> omega
  · rintro ⟨hc, ⟨h1, h2⟩, ha⟩
    refine ⟨hc, ⟨h1, h2⟩, ?_, (ha 0 (by omega) (by omega)).1, (ha (lenL v - 1) (by omega) (by omega)).2.1⟩
    intro i hi
    have := (ha ((i + 1 : Nat) : Int) (by omega) (by unfold lenL; omega)).2.2 (by omega)
    rw [show ((i + 1 : Nat) : Int) - 1 = (i : Int) by omega, nthI_nat, nthI_nat] at this
    exact this
theorem cfg_bool (c : LadderConfig) (v : List Int) : pickB (pickB (pickB (pickB (pickB (pickB (pickB (leI 1 c.fDown) (leI c.fDown 1048576) false) (leI 1 c.fUp) false) (leI c.fUp 1048576) false) (leI 0 c.fSpare) false) (leI c.fSpare 100) false) (leI 1 (lenL v)) false) (leI (lenL v) 3) false = decide (CfgOk c ∧ 1 ≤ lenL v ∧ lenL v ≤ 3) := by
  simp only [pickB_and, leI_d, CfgOk, ← Bool.decide_and]
  congr 1
  apply propext
  constructor
  · intro h; omega
  · intro h; omega

theorem may_core (x0 : LadderConfig) (x1 : Int) (v1 : List Int) (hv : lenL v1 ≤ 5) :
    (((gLadderNew x0 x1 v1)).bind fun r1 =>
    optC r1.1 (
      ((loopF (gLaw23LadderMay.loop2 v1) (0, (pickB (pickB (pickB (pickB (pickB (pickB (pickB (leI 1 x0.fDown) (leI x0.fDown 1048576) false) (leI 1 x0.fUp) false) (leI x0.fUp 1048576) false) (leI 0 x0.fSpare) false) (leI x0.fSpare 100) false) (leI 1 (lenL v1)) false) (leI (lenL v1) 3) false))).bind fun f => flC f fun (v2 : Bool) =>
        (gLaw23Awake).bind fun r2 =>
        bif (pickB (pickB (pickB r2 (eqB (eqI r1.2 0) v2) false) (eqB false v2) false) (pickB v2 true (eqI r1.2 5)) false) then (
          bif (notB v2) then (
            some true
          ) else (
            none
          )
        ) else (
          some false
        )
      )
    ) fun o1 => (
      ((loopF (gLaw23LadderMay.loop3 v1) (0, (pickB (pickB (pickB (pickB (pickB (pickB (pickB (leI 1 x0.fDown) (leI x0.fDown 1048576) false) (leI 1 x0.fUp) false) (leI x0.fUp 1048576) false) (leI 0 x0.fSpare) false) (leI x0.fSpare 100) false) (leI 1 (lenL v1)) false) (leI (lenL v1) 3) false))).bind fun f => flC f fun (v3 : Bool) =>
        (gLaw23Awake).bind fun r2 =>
        need (Under (notB v3) false (Under (pickB (pickB (pickB r2 (eqB (eqI r1.2 0) v3) false) (eqB true v3) false) (pickB v3 true (eqI r1.2 5)) false) true ((gLadderLadderAt o1).isSome = true))) <|
        need (Under (eqI ((gLadderLadderAt o1).getD dflt) (minI (maxI x1 0) (subI .i64 (lenL v1) 1))) true (Under (notB v3) false (Under (pickB (pickB (pickB r2 (eqB (eqI r1.2 0) v3) false) (eqB true v3) false) (pickB v3 true (eqI r1.2 5)) false) true ((gLadderLadderMoves o1).isSome = true)))) <|
        some (pickB (pickB (pickB (pickB r2 (eqB (eqI r1.2 0) v3) false) (eqB true v3) false) (pickB v3 true (eqI r1.2 5)) false) (pickB (notB v3) true (pickB (eqI ((gLadderLadderAt o1).getD dflt) (minI (maxI x1 0) (subI .i64 (lenL v1) 1))) (eqI ((gLadderLadderMoves o1).getD dflt) 0) false)) false)
      )
    )) = some true := by
  have e3 : gLaw23LadderMay.loop3 v1 = gLaw23LadderMay.loop2 v1 := rfl
  rw [e3, cfg_bool, may_loop _ _ hv, awake_t, new_eq _ _ _ (by unfold lenL at hv; omega)]
  simp only [bind_so, flC_go]
  by_cases h : NewOk x0 v1
  · obtain ⟨h1, h2, h3⟩ := (all_iff _ _).1 h
    rw [if_pos h]
    have e0 : eqI 0 0 = true := by decide
    simp only [optC_some, h1, h2, h3, and_self, decide_true, Bool.and_true, notB_t, at_eq, moves_eq, Option.isSome_some, under_true, need_true, getD_so, e0, mostI (lenL_nn v1) (show lenL v1 ≤ 1000 by omega)]
    have e1 : eqI (mostF x1 (lenL v1)) (mostF x1 (lenL v1)) = true := by rw [eqI_d]; simp
    simp [e1, eqB_d]
  · rw [if_neg h]
    have hn : ¬ ((CfgOk x0 ∧ 1 ≤ lenL v1 ∧ lenL v1 ≤ 3) ∧ AllOk v1 (lenL v1)) := fun q => h ((all_iff _ _).2 ⟨q.1.1, q.1.2, q.2⟩)
    have e : (decide (CfgOk x0 ∧ 1 ≤ lenL v1 ∧ lenL v1 ≤ 3) && @decide (AllOk v1 (lenL v1)) (Classical.propDecidable _)) = false := by
      by_cases a : (CfgOk x0 ∧ 1 ≤ lenL v1 ∧ lenL v1 ≤ 3)
      · have : ¬ AllOk v1 (lenL v1) := fun q => hn ⟨a, q⟩
        simp [this]
      · simp only [decide_eq_false a, Bool.false_and]
    rw [optC_none, e]
    decide

theorem may_true (x0 : LadderConfig) (x1 : Int) (x2 : List Int) : gLaw23LadderMay x0 x1 x2 = some true := by
  unfold gLaw23LadderMay
  by_cases h : 5 < lenL x2
  · rw [ltI_d, decide_eq_true h, cond_true, need_t (show CutB 0 5 (lenL x2) from ⟨by omega, by omega, by omega⟩), bind_so, flC_go]
    exact may_core x0 x1 _ (by
      unfold lenL cutL
      simp only [List.length_take]
      have : (5 : Int).toNat - (0 : Int).toNat = 5 := by decide
      omega)
  · rw [ltI_d, decide_eq_false h, cond_false, bind_so, flC_go]
    exact may_core x0 x1 _ (by omega)
end Go.Proofs
