/- The ladder, as plain rules over its fields. No condition. -/
import Derived.Test.YtdcfbacpklklcaaLdD
import Derived.Test.YtdcfbacpklklcaaWlD
import Derived.Test.YtdcfbacpklklcaaLv
namespace Go.Proofs
open Go.Ab

theorem less_eq (a b : Int) : gCmpLessInt a b = some (decide (a < b)) := by
  unfold gCmpLessInt gCmpIsNaNInt
  simp [need, Under, neI_d, ltI_d, pickB_or]

def sortedP (l : List Int) : Prop := ∀ i : Nat, i + 1 < l.length → l.getD i 0 ≤ l.getD (i + 1) 0

theorem sorted_loop (l : List Int) (hl : l.length < 1000) : ∀ k : Nat, k < l.length →
    loopF (gSlicesIsSortedIntInt.loop1 l) (k : Int) = some (if (∀ i : Nat, i < k → l.getD i 0 ≤ l.getD (i + 1) 0) then .go () else .out false) := by
  intro k
  induction k with
  | zero =>
    intro h
    rw [loopF_eq]
    unfold gSlicesIsSortedIntInt.loop1
    simp [ltI_d]
  | succ k ih =>
    intro h
    have e1 : ltI 0 ((k + 1 : Nat) : Int) = true := by rw [ltI_d]; exact decide_eq_true (by omega)
    have e2 : subI .i64 ((k + 1 : Nat) : Int) 1 = (k : Int) := by rw [subI_n (by omega) (by omega)]; omega
    have b1 : InB ((k + 1 : Nat) : Int) (lenL l) := by unfold InB lenL; omega
    have b2 : InB (k : Int) (lenL l) := by unfold InB lenL; omega
    have n1 : nthI l ((k + 1 : Nat) : Int) = l.getD (k + 1) 0 := by simp only [nthI, Int.toNat_natCast]; rfl
    have n2 : nthI l (k : Int) = l.getD k 0 := by simp only [nthI, Int.toNat_natCast]; rfl
    have hb : gSlicesIsSortedIntInt.loop1 l ((k + 1 : Nat) : Int) = some (if l.getD (k + 1) 0 < l.getD k 0 then .out (.out false) else .go (k : Int)) := by
      unfold gSlicesIsSortedIntInt.loop1
      simp only [e1, e2, need_t b1, need_t b2, n1, n2, less_eq, bind_so, cond_true]
      by_cases hc : l.getD (k + 1) 0 < l.getD k 0
      · simp only [hc, decide_true, cond_true, if_true]
      · simp only [hc, decide_false, cond_false, if_false]
    rw [loopF_eq, hb]
    by_cases hc : l.getD (k + 1) 0 < l.getD k 0
    · simp only [hc, if_true]
      rw [if_neg]
      intro q
      have := q k (by omega)
      omega
    · simp only [hc, if_false]
      rw [ih (by omega)]
      congr 1
      have : (∀ i : Nat, i < k → l.getD i 0 ≤ l.getD (i + 1) 0) ↔ ∀ i : Nat, i < k + 1 → l.getD i 0 ≤ l.getD (i + 1) 0 := by
        constructor
        · intro q i hi
          by_cases e : i = k
          · subst e; omega
          · exact q i (by omega)
        · intro q i hi
          exact q i (by omega)
      by_cases q : ∀ i : Nat, i < k → l.getD i 0 ≤ l.getD (i + 1) 0
      · rw [if_pos q, if_pos (this.1 q)]
      · rw [if_neg q, if_neg (fun z => q (this.2 z))]

open Classical in
theorem sorted_eq (l : List Int) (hl : l.length < 1000) : gSlicesIsSortedIntInt l = some (decide (sortedP l)) := by
  unfold gSlicesIsSortedIntInt
  by_cases h0 : l.length = 0
  · have : l = [] := List.length_eq_zero_iff.1 h0
    subst this
    rw [loopF_eq]
    unfold gSlicesIsSortedIntInt.loop1
    have e : ltI 0 (subI .i64 (lenL ([] : List Int)) 1) = false := by decide
    simp only [e, cond_false, bind_so, flC_go]
    have : sortedP [] := fun i h => by simp at h
    simp [this]
  · have e : subI .i64 (lenL l) 1 = ((l.length - 1 : Nat) : Int) := by
      rw [subI_n (by unfold lenL; omega) (by unfold lenL; omega)]; unfold lenL; omega
    rw [e, sorted_loop l hl (l.length - 1) (by omega)]
    have : (∀ i : Nat, i < l.length - 1 → l.getD i 0 ≤ l.getD (i + 1) 0) ↔ sortedP l := by
      constructor
      · intro q i hi; exact q i (by omega)
      · intro q i hi; exact q i (by omega)
    by_cases q : sortedP l
    · rw [if_pos (this.2 q)]; simp [q]
    · rw [if_neg (fun z => q (this.1 z))]; simp [q]

/-! ### One step -/
structure LadOk (l : LadderLadder) (N : Int) : Prop where
  n0 : 1 ≤ lenL l.fNeeds
  n1 : lenL l.fNeeds ≤ 3
  nd : ∀ i, 0 ≤ i → i < lenL l.fNeeds → 0 ≤ nthI l.fNeeds i ∧ nthI l.fNeeds i ≤ 1099511627776
  at0 : 0 ≤ l.fAt
  at1 : l.fAt ≤ l.fMost
  mo : l.fMost < lenL l.fNeeds
  b0 : 0 ≤ l.fBad
  b1 : l.fBad ≤ N
  g0 : 0 ≤ l.fGood
  g1 : l.fGood ≤ N
  m0 : 0 ≤ l.fMoves
  m1 : l.fMoves ≤ N
  s0 : 0 ≤ l.fConfig.fSpare
  s1 : l.fConfig.fSpare ≤ 100

def badP (l : LadderLadder) (rate : Int) : Prop := rate < nthI l.fNeeds l.fAt ∧ 0 < l.fAt
def goodP (l : LadderLadder) (rate : Int) : Prop := l.fAt < l.fMost ∧ nthI l.fNeeds (l.fAt + 1) + nthI l.fNeeds (l.fAt + 1) / 10 * l.fConfig.fSpare ≤ rate
instance (l : LadderLadder) (r : Int) : Decidable (badP l r) := by unfold badP; infer_instance
instance (l : LadderLadder) (r : Int) : Decidable (goodP l r) := by unfold goodP; infer_instance
def stepF (l : LadderLadder) (to : Int) : LadderLadder := .mk l.fConfig l.fNeeds to l.fMost 0 0 (l.fMoves + 1)
def tickF (l : LadderLadder) (rate : Int) : Bool × LadderLadder :=
  if badP l rate then
    if l.fConfig.fDown ≤ l.fBad + 1 then (true, stepF l (l.fAt - 1)) else (false, .mk l.fConfig l.fNeeds l.fAt l.fMost (l.fBad + 1) 0 l.fMoves)
  else if goodP l rate then
    if l.fConfig.fUp ≤ l.fGood + 1 then (true, stepF l (l.fAt + 1)) else (false, .mk l.fConfig l.fNeeds l.fAt l.fMost 0 (l.fGood + 1) l.fMoves)
  else (false, .mk l.fConfig l.fNeeds l.fAt l.fMost 0 0 l.fMoves)

theorem spare_le {n s : Int} (h0 : 0 ≤ n) (h1 : n ≤ 1099511627776) (s0 : 0 ≤ s) (s1 : s ≤ 100) : 0 ≤ n / 10 * s ∧ n / 10 * s ≤ 109951162777600 := by
  have a : 0 ≤ n / 10 := by omega
  have b : n / 10 ≤ 1099511627776 := by omega
  refine ⟨Int.mul_nonneg a s0, ?_⟩
  calc n / 10 * s ≤ n / 10 * 100 := Int.mul_le_mul_of_nonneg_left s1 a
    _ ≤ 109951162777600 := by omega

theorem enough_eq {l : LadderLadder} {N : Int} (h : LadOk l N) (rate k : Int) (hk : 0 ≤ k) (hk2 : k < lenL l.fNeeds) :
    gLadderLadderEnough l rate k = some (decide (nthI l.fNeeds k + nthI l.fNeeds k / 10 * l.fConfig.fSpare ≤ rate)) := by
  unfold gLadderLadderEnough
  have b : InB k (lenL l.fNeeds) := ⟨hk, hk2⟩
  obtain ⟨d0, d1⟩ := h.nd k hk hk2
  have sp := spare_le d0 d1 h.s0 h.s1
  have z : NonZ 10 := by decide
  rw [need_t b, need_t b, need_t z, quoI_n d0 (by omega) (by omega), mulI_n (by omega) (by omega), addI_n (by omega) (by omega), leI_d]

theorem tick_eq {l : LadderLadder} {N : Int} (h : LadOk l N) (hN : N ≤ 2147483648) (rate : Int) : gLadderLadderTick l rate = some (tickF l rate) := by
  unfold gLadderLadderTick gLadderLadderStep
  have b : InB l.fAt (lenL l.fNeeds) := ⟨h.at0, by have := h.at1; have := h.mo; omega⟩
  have := h.b0; have := h.b1; have := h.g0; have := h.g1; have := h.m0; have := h.m1; have := h.at0; have := h.at1; have := h.mo; have := h.n1
  rw [need_t b]
  unfold tickF
  simp only [pickB_and, ltI_d, leI_d]
  rw [addI_n (a := l.fBad) (by omega) (by omega), addI_n (a := l.fGood) (by omega) (by omega), addI_n (a := l.fAt) (by omega) (by omega), addI_n (a := l.fMoves) (by omega) (by omega), subI_n (a := l.fAt) (by omega) (by omega)]
  by_cases hb : badP l rate
  · rw [if_pos hb]
    have e : (decide (rate < nthI l.fNeeds l.fAt) && decide (0 < l.fAt)) = true := by simpa [badP] using hb
    rw [e]
    simp only [cond_true]
    by_cases hd : l.fConfig.fDown ≤ l.fBad + 1
    · simp [hd, stepF]
    · simp [hd]
  · rw [if_neg hb]
    have e : (decide (rate < nthI l.fNeeds l.fAt) && decide (0 < l.fAt)) = false := by
      cases q : (decide (rate < nthI l.fNeeds l.fAt) && decide (0 < l.fAt)) with
      | false => rfl
      | true => exact absurd (by simpa [badP] using q) hb
    rw [e]
    simp only [cond_false]
    by_cases ha : l.fAt < l.fMost
    · rw [enough_eq h rate (l.fAt + 1) (by omega) (by omega)]
      simp only [Option.isSome_some, under_true, need_true, getD_so, ha, decide_true, Bool.true_and]
      by_cases hg : nthI l.fNeeds (l.fAt + 1) + nthI l.fNeeds (l.fAt + 1) / 10 * l.fConfig.fSpare ≤ rate
      · have hG : goodP l rate := ⟨ha, hg⟩
        rw [if_pos hG]
        simp only [hg, decide_true, cond_true]
        by_cases hu : l.fConfig.fUp ≤ l.fGood + 1
        · simp [hu, stepF]
        · simp [hu]
      · have hG : ¬ goodP l rate := fun q => hg q.2
        rw [if_neg hG]
        simp [hg]
    · have hG : ¬ goodP l rate := fun q => ha q.1
      rw [if_neg hG, need_t (show Under _ true _ from fun q => absurd (of_decide_eq_true q) ha)]
      simp [ha]

theorem tick_ok {l : LadderLadder} {N : Int} (h : LadOk l N) (rate : Int) : LadOk (tickF l rate).2 (N + 1) := by
  have := h.b0; have := h.b1; have := h.g0; have := h.g1; have := h.m0; have := h.m1; have := h.at0; have := h.at1; have := h.mo; have := h.n1
  unfold tickF
  split
  · rename_i hb
    have hb2 := hb.2
    split
    · exact ⟨h.n0, h.n1, h.nd, by simp only [stepF]; omega, by simp only [stepF]; omega, h.mo, by simp only [stepF]; omega, by simp only [stepF]; omega, by simp only [stepF]; omega, by simp only [stepF]; omega, by simp only [stepF]; omega, by simp only [stepF]; omega, h.s0, h.s1⟩
    · exact ⟨h.n0, h.n1, h.nd, h.at0, h.at1, h.mo, by simp only; omega, by simp only; omega, by simp only; omega, by simp only; omega, by simp only; omega, by simp only; omega, h.s0, h.s1⟩
  · split
    · rename_i hg
      have hg1 := hg.1
      split
      · exact ⟨h.n0, h.n1, h.nd, by simp only [stepF]; omega, by simp only [stepF]; omega, h.mo, by simp only [stepF]; omega, by simp only [stepF]; omega, by simp only [stepF]; omega, by simp only [stepF]; omega, by simp only [stepF]; omega, by simp only [stepF]; omega, h.s0, h.s1⟩
      · exact ⟨h.n0, h.n1, h.nd, h.at0, h.at1, h.mo, by simp only; omega, by simp only; omega, by simp only; omega, by simp only; omega, by simp only; omega, by simp only; omega, h.s0, h.s1⟩
    · exact ⟨h.n0, h.n1, h.nd, h.at0, h.at1, h.mo, by simp only; omega, by simp only; omega, by simp only; omega, by simp only; omega, by simp only; omega, by simp only; omega, h.s0, h.s1⟩

def mostF (m len : Int) : Int := min (max m 0) (len - 1)
def wantF (l : LadderLadder) (m : Int) : Bool × LadderLadder :=
  if l.fAt ≤ mostF m (lenL l.fNeeds) then (false, .mk l.fConfig l.fNeeds l.fAt (mostF m (lenL l.fNeeds)) l.fBad l.fGood l.fMoves)
  else (true, .mk l.fConfig l.fNeeds (mostF m (lenL l.fNeeds)) (mostF m (lenL l.fNeeds)) 0 0 (l.fMoves + 1))
theorem mostI {n : Int} (h0 : 0 ≤ n) (h1 : n ≤ 1000) (m : Int) : minI (maxI m 0) (subI .i64 n 1) = mostF m n := by
  rw [subI_n (by omega) (by omega)]; rfl
theorem want_eq {l : LadderLadder} (h1 : lenL l.fNeeds ≤ 3) (m0 : 0 ≤ l.fMoves) (m1 : l.fMoves ≤ 2147483648) (m : Int) : gLadderLadderWant l m = some (wantF l m) := by
  unfold gLadderLadderWant gLadderLadderStep
  have := lenL_nn l.fNeeds
  dsimp only
  rw [mostI (by omega) (by omega), addI_n (by omega) (by omega), leI_d]
  unfold wantF
  by_cases hc : l.fAt ≤ mostF m (lenL l.fNeeds)
  · simp [hc]
  · simp [hc]
theorem want_ok {l : LadderLadder} {N : Int} (h : LadOk l N) (m : Int) : LadOk (wantF l m).2 (N + 1) := by
  have := h.b0; have := h.b1; have := h.g0; have := h.g1; have := h.m0; have := h.m1; have := h.at0; have := h.at1; have := h.mo; have := h.n1; have := h.n0
  have hm : 0 ≤ mostF m (lenL l.fNeeds) ∧ mostF m (lenL l.fNeeds) < lenL l.fNeeds := by unfold mostF; omega
  unfold wantF
  split
  · exact ⟨h.n0, h.n1, h.nd, h.at0, by simp only; omega, hm.2, by simp only; omega, by simp only; omega, by simp only; omega, by simp only; omega, by simp only; omega, by simp only; omega, h.s0, h.s1⟩
  · exact ⟨h.n0, h.n1, h.nd, hm.1, by simp only; omega, hm.2, by simp only; omega, by simp only; omega, by simp only; omega, by simp only; omega, by simp only; omega, by simp only; omega, h.s0, h.s1⟩
end Go.Proofs
