/- SfuMay: which configurations may be. No condition. -/
import Derived.Test.YtjjjeolcapebbaaGreatDoorM02
namespace Go.Proofs
open Go.Ab
theorem lessI_eq (a b : Int) : gCmpLessInt a b = some (decide (a < b)) := by
  simp [gCmpLessInt, gCmpIsNaNInt, neI_d, Under, pickB, ltI_d, need]
def upTo (v : List Int) : Nat → Bool
  | 0 => true
  | n + 1 => !(decide (nthI v ((n + 1 : Nat) : Int) < nthI v (n : Int))) && upTo v n
theorem sorted_loop (v : List Int) (hv : v.length ≤ 5) : ∀ n : Nat, n < v.length → loopF (gSlicesIsSortedIntInt.loop1 v) (n : Int) = some (bif upTo v n then .go () else .out false)
  | 0, _ => by
    rw [loopF_eq]
    simp [gSlicesIsSortedIntInt.loop1, ltI_d, upTo]
  | n + 1, h => by
    have ih := sorted_loop v hv n (by omega)
    have e1 : subI .i64 ((n + 1 : Nat) : Int) 1 = (n : Int) := by rw [subI_n (by omega) (by omega)]; omega
    rw [loopF_eq, gSlicesIsSortedIntInt.loop1, ltI_t (by omega), cond_true, need_t (by unfold InB lenL; omega), e1, need_t (by unfold InB lenL; omega), lessI_eq]
    simp only [bind_so, upTo]
    cases decide (nthI v ((n + 1 : Nat) : Int) < nthI v (n : Int)) with
    | true => rfl
    | false => simpa using ih
theorem sorted_eq (v : List Int) (h0 : 1 ≤ v.length) (hv : v.length ≤ 5) : gSlicesIsSortedIntInt v = some (upTo v (v.length - 1)) := by
  have e1 : subI .i64 (lenL v) 1 = ((v.length - 1 : Nat) : Int) := by unfold lenL; rw [subI_n (by omega) (by omega)]; omega
  rw [gSlicesIsSortedIntInt, e1, sorted_loop v hv _ (by omega)]
  cases upTo v (v.length - 1) <;> rfl
/-- What a ladder asks of its rungs. -/
def okW (v : List Int) : Bool := decide (1 ≤ v.length ∧ v.length ≤ 3) && upTo v (v.length - 1) && !(decide (nthI v 0 < 0)) && !(decide (1099511627776 < nthI v ((v.length - 1 : Nat) : Int)))
theorem ladderNew_eq (v : List Int) (hv : v.length ≤ 5) : ∃ o, gLadderNew (LadderConfig.mk 3 5 2) 0 v = some (o, bif okW v then 0 else 5) := by
  have hc : gLadderConfigCheck (LadderConfig.mk 3 5 2) = some 0 := by kernel_rfl
  rw [gLadderNew, hc]
  simp only [bind_so]
  rw [show neI 0 0 = false from by kernel_rfl, cond_false]
  by_cases hl : 1 ≤ v.length ∧ v.length ≤ 3
  · have h1 : pickB (ltI (lenL v) 1) true (ltI 3 (lenL v)) = false := by
      rw [ltI_f (by unfold lenL; omega), ltI_f (by unfold lenL; omega)]; rfl
    have e1 : subI .i64 (lenL v) 1 = ((v.length - 1 : Nat) : Int) := by unfold lenL; rw [subI_n (by omega) (by omega)]; omega
    rw [h1, sorted_eq v hl.1 hv, e1]
    simp only [getD_so]
    rw [need_t (by intro _; rfl), need_t (by intro _; unfold InB lenL; omega), need_t (by intro _; unfold InB lenL; omega)]
    have hok : okW v = !(pickB (pickB (pickB false true (notB (upTo v (v.length - 1)))) true (ltI (nthI v 0) 0)) true (ltI 1099511627776 (nthI v ((v.length - 1 : Nat) : Int)))) := by
      unfold okW
      rw [decide_eq_true hl]
      simp only [pickB, ltI_d, notB_d]
      cases upTo v (v.length - 1) <;> cases decide (nthI v 0 < 0) <;> cases decide (1099511627776 < nthI v ((v.length - 1 : Nat) : Int)) <;> rfl
    rw [hok]
    cases pickB (pickB (pickB false true (notB (upTo v (v.length - 1)))) true (ltI (nthI v 0) 0)) true (ltI 1099511627776 (nthI v ((v.length - 1 : Nat) : Int))) with
    | true => exact ⟨_, rfl⟩
    | false =>
      simp only [cond_false, Bool.not_false, cond_true]
      rw [need_t (by unfold AppB lenL; omega)]
      have hw : ∃ r, gLadderLadderWant (LadderLadder.mk (LadderConfig.mk 3 5 2) v 0 0 0 0 0) 0 = some r := by
        rw [gLadderLadderWant]
        cases leqI (LadderLadder.mk (LadderConfig.mk 3 5 2) v 0 0 0 0 0).fAt (minI (maxI 0 0) (subI .i64 (lenL (LadderLadder.mk (LadderConfig.mk 3 5 2) v 0 0 0 0 0).fNeeds) 1)) <;> exact ⟨_, rfl⟩
      obtain ⟨r, hr⟩ := hw
      rw [hr]
      exact ⟨_, rfl⟩
  · have h1 : pickB (ltI (lenL v) 1) true (ltI 3 (lenL v)) = true := by
      by_cases q : v.length < 1
      · rw [ltI_t (by unfold lenL; omega)]; rfl
      · rw [ltI_f (by unfold lenL; omega), ltI_t (by unfold lenL; omega)]; rfl
    have hok : okW v = false := by unfold okW; rw [decide_eq_false hl]; rfl
    rw [h1, hok, need_t (by intro q; cases q), need_t (by intro q; simp [pickB] at q), need_t (by intro q; simp [pickB] at q)]
    exact ⟨_, rfl⟩
def cfg (v : List Int) (w r s t : Int) : SfuConfig := SfuConfig.mk (IngressConfig.mk (ReorderConfig.mk 8 5) (FrameConfig.mk true 200 6 10)) (EgressConfig.mk 6 400 20 100 3) (PliConfig.mk 3 12) (StallConfig.mk 15 10) (LadderConfig.mk 3 5 2) v w r 2 2 s t
/-- The numbers beside the rungs. -/
def numsB (w r s t : Int) : Bool := pickB (pickB (pickB (pickB (pickB (pickB (pickB (leqI 1 w) (leqI w 1048576) false) (leqI 1 r) false) (leqI r 4096) false) (leqI 100 s) false) (leqI s 16777216) false) (leqI 1 t) false) (leqI t 1099511627776) false
theorem check_loop : loopF (gSfuConfigCheck.loop1 0 0 0 0 0) 0 = some (.go ()) := by
  have st : ∀ i j : Int, 0 ≤ i → i < 5 → addI .i64 i 1 = j → nthI ([0, 0, 0, 0, 0] : List Int) i = 0 → gSfuConfigCheck.loop1 0 0 0 0 0 i = some (.go j) := fun i j h0 h1 h2 h3 => by
    rw [gSfuConfigCheck.loop1, ltI_t h1, need_t ⟨h0, h1⟩, h2, h3]; rfl
  rw [loopF_eq, st 0 1 (by omega) (by omega) (by kernel_rfl) rfl]
  simp only
  rw [loopF_eq, st 1 2 (by omega) (by omega) (by kernel_rfl) rfl]
  simp only
  rw [loopF_eq, st 2 3 (by omega) (by omega) (by kernel_rfl) rfl]
  simp only
  rw [loopF_eq, st 3 4 (by omega) (by omega) (by kernel_rfl) rfl]
  simp only
  rw [loopF_eq, st 4 5 (by omega) (by omega) (by kernel_rfl) rfl]
  simp only
  rw [loopF_eq]
  rfl
theorem ltI_le (a b : Int) : ltI a b = !leqI b a := by
  rw [ltI_d, leI_d]
  by_cases h : a < b
  · rw [decide_eq_true h, decide_eq_false (by omega)]; rfl
  · rw [decide_eq_false h, decide_eq_true (by omega)]; rfl
theorem check_eq (v : List Int) (hv : v.length ≤ 5) (w r s t : Int) : gSfuConfigCheck (cfg v w r s t) = some (bif okW v && decide (v.length = 3) && numsB w r s t then 0 else 5) := by
  obtain ⟨o, ho⟩ := ladderNew_eq v hv
  have h1 : gIngressConfigCheck (IngressConfig.mk (ReorderConfig.mk 8 5) (FrameConfig.mk true 200 6 10)) = some 0 := by kernel_rfl
  have h2 : gEgressConfigCheck (EgressConfig.mk 6 400 20 100 3) = some 0 := by kernel_rfl
  have h3 : gPliConfigCheck (PliConfig.mk 3 12) = some 0 := by kernel_rfl
  have h4 : gStallConfigCheck (StallConfig.mk 15 10) = some 0 := by kernel_rfl
  have h5 : gLadderConfigCheck (LadderConfig.mk 3 5 2) = some 0 := by kernel_rfl
  rw [gSfuConfigCheck, cfg]
  simp only [h1, h2, h3, h4, h5, bind_so, check_loop, flC_go, ho]
  have hl : neI (lenL v) 3 = !decide (v.length = 3) := by
    rw [neI_d]; unfold lenL
    by_cases q : v.length = 3
    · rw [decide_eq_true q, decide_eq_false (by omega)]; rfl
    · rw [decide_eq_false q, decide_eq_true (by omega)]; rfl
  have rest : (bif (pickB (neI (bif okW v then 0 else 5) 0) true (neI (lenL v) 3)) then some (5 : Int) else
      (gRateNew w).bind fun r7 => optC r7.1 (bif (neI r7.2 0) then some r7.2 else (gRingNew r 2 2).bind fun r8 => optC r8.1 (bif (neI r8.2 0) then some r8.2 else bif (pickB (pickB (pickB (ltI s 100) true (ltI 16777216 s)) true (ltI t 1)) true (ltI 1099511627776 t)) then some 5 else some 0)
        fun _ => (bif (neI r8.2 0) then some r8.2 else bif (pickB (pickB (pickB (ltI s 100) true (ltI 16777216 s)) true (ltI t 1)) true (ltI 1099511627776 t)) then some 5 else some 0))
        fun _ => (bif (neI r7.2 0) then some r7.2 else (gRingNew r 2 2).bind fun r8 => optC r8.1 (bif (neI r8.2 0) then some r8.2 else bif (pickB (pickB (pickB (ltI s 100) true (ltI 16777216 s)) true (ltI t 1)) true (ltI 1099511627776 t)) then some 5 else some 0)
        fun _ => (bif (neI r8.2 0) then some r8.2 else bif (pickB (pickB (pickB (ltI s 100) true (ltI 16777216 s)) true (ltI t 1)) true (ltI 1099511627776 t)) then some 5 else some 0))) =
      some (bif okW v && decide (v.length = 3) && numsB w r s t then 0 else 5) := by
    rw [hl]
    unfold gRateNew gRingNew numsB
    simp only [ltI_le]
    cases okW v <;> cases decide (v.length = 3) <;> try rfl
    rw [show leqI 0 2 = true from rfl]
    cases leqI 1 w <;> cases leqI w 1048576 <;> try rfl
    all_goals cases leqI 1 r <;> cases leqI r 4096 <;> try rfl
    all_goals cases leqI 100 s <;> cases leqI s 16777216 <;> try rfl
    all_goals cases leqI 1 t <;> cases leqI t 1099511627776 <;> rfl
  cases o with
  | none => exact rest
  | some o => exact rest
/-- One rung as the law looks at it. -/
def okAt (v : List Int) (i : Int) : Bool := !(pickB (pickB (ltI (nthI v i) 0) true (ltI 1099511627776 (nthI v i))) true (pickB (ltI 0 i) (ltI (nthI v i) (nthI v (subI .i64 i 1))) false))
def okFrom (v : List Int) : Nat → Nat → Bool
  | _, 0 => true
  | i, k + 1 => okAt v (i : Int) && okFrom v (i + 1) k
theorem may_loop (v : List Int) (hv : v.length ≤ 5) : ∀ (k i : Nat) (b : Bool), i + k = v.length → loopF (gLaw26SfuMay.loop2 v) ((i : Int), b) = some (.go (b && okFrom v i k))
  | 0, i, b, h => by
    rw [loopF_eq, gLaw26SfuMay.loop2]
    simp only
    rw [ltI_f (by unfold lenL; omega), cond_false, okFrom, Bool.and_true]
  | k + 1, i, b, h => by
    have ih := fun b => may_loop v hv k (i + 1) b (by omega)
    have e1 : addI .i64 (i : Int) 1 = ((i + 1 : Nat) : Int) := by rw [addI_n (by omega) (by omega)]; omega
    rw [loopF_eq, gLaw26SfuMay.loop2]
    simp only
    rw [ltI_t (by unfold lenL; omega), cond_true, need_t (by unfold InB lenL; omega), need_t (by
      intro q _
      have q2 : 0 < (i : Int) := by simpa [ltI] using q
      rw [subI_n (by omega) (by omega)]; unfold InB lenL; omega), e1]
    have hok : pickB (pickB (ltI (nthI v (i : Int)) 0) true (ltI 1099511627776 (nthI v (i : Int)))) true (pickB (ltI 0 (i : Int)) (ltI (nthI v (i : Int)) (nthI v (subI .i64 (i : Int) 1))) false) = !okAt v (i : Int) := by
      unfold okAt; rw [Bool.not_not]
    rw [hok, okFrom]
    cases okAt v (i : Int) with
    | true =>
      simp only [Bool.not_true, cond_false, Bool.true_and]
      exact ih b
    | false =>
      simp only [Bool.not_false, cond_true, Bool.false_and, Bool.and_false]
      rw [ih false, Bool.false_and]
theorem three (v : List Int) (h : v.length = 3) : okFrom v 0 3 = okW v := by
  obtain ⟨a, b, c, rfl⟩ : ∃ a b c, v = [a, b, c] := by
    match v, h with
    | [a, b, c], _ => exact ⟨a, b, c, rfl⟩
  have e0 : nthI [a, b, c] 0 = a := rfl
  have e1 : nthI [a, b, c] 1 = b := rfl
  have e2 : nthI [a, b, c] 2 = c := rfl
  have s1 : subI .i64 1 1 = 0 := by kernel_rfl
  have s2 : subI .i64 2 1 = 1 := by kernel_rfl
  have c0 : ((0 : Nat) : Int) = 0 := rfl
  have c1 : ((1 : Nat) : Int) = 1 := rfl
  have c2 : ((2 : Nat) : Int) = 2 := rfl
  simp only [okFrom, okAt, okW, upTo, List.length_cons, List.length_nil, Nat.reduceAdd, Nat.reduceSub, Nat.zero_add, c0, c1, c2, e0, e1, e2, s1, s2, ltI_d, pickB, Bool.and_true]
  by_cases h1 : a < 0 <;> by_cases h2 : 1099511627776 < a <;> by_cases h3 : b < 0 <;> by_cases h4 : 1099511627776 < b <;> by_cases h5 : c < 0 <;> by_cases h6 : 1099511627776 < c <;> by_cases h7 : b < a <;> by_cases h8 : c < b <;>
    first | (exfalso; omega) | simp [h1, h2, h3, h4, h5, h6, h7, h8]
def may0 (v : List Int) (x1 x2 x3 x4 : Int) : Bool := (pickB (pickB (pickB (pickB (pickB (pickB (pickB (pickB (eqI (lenL v) 3) (leqI 1 x1) false) (leqI x1 1048576) false) (leqI 1 x2) false) (leqI x2 4096) false) (leqI 100 x3) false) (leqI x3 16777216) false) (leqI 1 x4) false) (leqI x4 1099511627776) false)
theorem sfuMay_main (v : List Int) (hv : v.length ≤ 5) (x1 x2 x3 x4 : Int) :
    loopF (gLaw26SfuMay.loop2 v) (0, may0 v x1 x2 x3 x4) = some (.go (okW v && decide (v.length = 3) && numsB x1 x2 x3 x4)) := by
  unfold may0
  have e0 : ((0 : Nat) : Int) = 0 := rfl
  rw [← e0, may_loop v hv v.length 0 _ (by omega)]
  congr 2
  have hl : eqI (lenL v) 3 = decide (v.length = 3) := by
    rw [eqI_d]; unfold lenL
    by_cases q : v.length = 3
    · rw [decide_eq_true q, decide_eq_true (by omega)]
    · rw [decide_eq_false q, decide_eq_false (by omega)]
  rw [hl]
  by_cases q : v.length = 3
  · rw [q, three v q, decide_eq_true rfl]
    unfold numsB
    simp only [pickB, cond_true]
    cases okW v
    · simp
    · simp
  · rw [decide_eq_false q]
    simp [pickB]
theorem sfuMay_plain (x0 : List Int) (x1 x2 x3 x4 : Int) : gLaw26SfuMay x0 x1 x2 x3 x4 = some true := by
  have key : ∀ v : List Int, v.length ≤ 5 → ((loopF (gLaw26SfuMay.loop2 v) (0, may0 v x1 x2 x3 x4)).bind fun f => flC f fun (v2 : Bool) =>
      ((gSfuNew (cfg v x1 x2 x3 x4))).bind fun r2 =>
      optC r2.1 (
        (gLaw26Awake).bind fun r3 =>
        need (Under (pickB (pickB r3 (eqB (eqI r2.2 0) v2) false) (eqB false v2) false) true ((gSfuConfigCheck (cfg v x1 x2 x3 x4)).isSome = true)) <|
        some (pickB (pickB (pickB (pickB r3 (eqB (eqI r2.2 0) v2) false) (eqB false v2) false) (eqI ((gSfuConfigCheck (cfg v x1 x2 x3 x4)).getD dflt) r2.2) false) (pickB v2 true (eqI r2.2 5)) false)
      ) fun o1 => (
        (gLaw26Awake).bind fun r3 =>
        need (Under (pickB (pickB r3 (eqB (eqI r2.2 0) v2) false) (eqB true v2) false) true ((gSfuConfigCheck (cfg v x1 x2 x3 x4)).isSome = true)) <|
        some (pickB (pickB (pickB (pickB r3 (eqB (eqI r2.2 0) v2) false) (eqB true v2) false) (eqI ((gSfuConfigCheck (cfg v x1 x2 x3 x4)).getD dflt) r2.2) false) (pickB v2 true (eqI r2.2 5)) false)
      ) : Option Bool) = some true := fun v hv => by
    have hc := check_eq v hv x1 x2 x3 x4
    have hn : gSfuNew (cfg v x1 x2 x3 x4) = some (bif okW v && decide (v.length = 3) && numsB x1 x2 x3 x4 then (some (), 0) else (none, 5)) := by
      unfold gSfuNew
      rw [show (SfuConfig.mk (IngressConfig.mk (ReorderConfig.mk (cfg v x1 x2 x3 x4).fIngress.fOrder.fMost (cfg v x1 x2 x3 x4).fIngress.fOrder.fWait) (cfg v x1 x2 x3 x4).fIngress.fFrame) (cfg v x1 x2 x3 x4).fEgress (cfg v x1 x2 x3 x4).fPli (cfg v x1 x2 x3 x4).fStall (cfg v x1 x2 x3 x4).fLadder (cfg v x1 x2 x3 x4).fNeeds (cfg v x1 x2 x3 x4).fWindow (cfg v x1 x2 x3 x4).fRing (cfg v x1 x2 x3 x4).fAgain (cfg v x1 x2 x3 x4).fGap (cfg v x1 x2 x3 x4).fShare (cfg v x1 x2 x3 x4).fReports) = cfg v x1 x2 x3 x4 from rfl, hc]
      cases (okW v && decide (v.length = 3) && numsB x1 x2 x3 x4) <;> rfl
    rw [sfuMay_main v hv, hn, hc]
    cases (okW v && decide (v.length = 3) && numsB x1 x2 x3 x4)
    · simp only [bind_so, flC_go, cond_false, optC_none, gLaw26Awake, gAwakeP, getD_so]
      exact (need_t (fun _ => rfl)).trans (by kernel_rfl)
    · simp only [bind_so, flC_go, cond_true, optC_some, gLaw26Awake, gAwakeP, getD_so]
      exact (need_t (fun _ => rfl)).trans (by kernel_rfl)
  rw [gLaw26SfuMay, gLaw26Config]
  simp only [bind_so]
  by_cases h : 5 < x0.length
  · rw [ltI_t (by unfold lenL; omega), cond_true, need_t (by unfold CutB lenL; omega)]
    simp only [bind_so, flC_go]
    exact key (cutL x0 0 5) (by simp [cutL]; omega)
  · rw [ltI_f (by unfold lenL; omega), cond_false]
    simp only [bind_so, flC_go]
    exact key x0 (by omega)
end Go.Proofs
