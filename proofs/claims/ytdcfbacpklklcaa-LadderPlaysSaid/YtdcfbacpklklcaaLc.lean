/- The laws LadderWants, LadderHolds and LadderMay hold of their plain functions. No condition. -/
import Derived.Test.YtdcfbacpklklcaaLb
namespace Go.Proofs
open Go.Ab

theorem at_eq (l : LadderLadder) : gLadderLadderAt l = some l.fAt := rfl
theorem moves_eq (l : LadderLadder) : gLadderLadderMoves l = some l.fMoves := rfl

def wantsI (r2 : List Int) (s : Int × Int × LadderLadder) : Prop := 0 ≤ s.1 ∧ s.1 ≤ 100 ∧ LadOk s.2.2 (2 * s.1) ∧ s.2.2.fMost = s.2.1 ∧ s.2.2.fNeeds = r2
theorem wants_round (x4 x5 : List Int) (r2 : List Int) (hr : lenL r2 ≤ 3) (hr1 : 1 ≤ lenL r2) (s : Int × Int × LadderLadder) (hI : wantsI r2 s) :
    RoundP (wantsI r2) (fun t : Fl LadderLadder Bool => ∃ v, t = .go v) (fun s => (100 - s.1).toNat) s (gLaw23LadderWants.loop4 x4 x5 r2 s) := by
  obtain ⟨i, most, l⟩ := s
  obtain ⟨h0, h1, hl, hm, hn⟩ := hI
  simp only at h0 h1 hl hm hn
  subst hn
  unfold gLaw23LadderWants.loop4
  by_cases hc : i < lenL x4 ∧ i < 100
  case neg =>
    have e : pickB (ltI i (lenL x4)) (ltI i 100) false = false := by simp [pickB_and, ltI_d]; omega
    rw [e, cond_false]
    exact ⟨_, rfl⟩
  have e : pickB (ltI i (lenL x4)) (ltI i 100) false = true := by simp [pickB_and, ltI_d, hc]
  rw [e, cond_true]
  -- the wish
  have key : ∃ l2 : LadderLadder, ∃ m2 : Int, LadOk l2 (2 * i + 1) ∧ l2.fMost = m2 ∧ l2.fNeeds = l.fNeeds ∧ (need (Under (ltI i (lenL x5)) true (InB i (lenL x5))) <|
        bif (pickB (ltI i (lenL x5)) (eqI (bitsOp .and .i64 (nthI x5 i) 1) 1) false) then (
          ((gLadderLadderAt l)).bind fun r4 =>
          need (InB i (lenL x5)) <|
          need (NonN 1) <|
          need (InB i (lenL x5)) <|
          need (NonN 1) <|
          ((gLadderLadderWant l (shrI .i64 (nthI x5 i) 1))).bind fun r5 =>
          need (Under (neB r5.1 (ltI (minI (maxI (shrI .i64 (nthI x5 i) 1) 0) (subI .i64 (lenL l.fNeeds) 1)) r4)) false ((gLadderLadderAt r5.2).isSome = true)) <|
          bif (pickB (neB r5.1 (ltI (minI (maxI (shrI .i64 (nthI x5 i) 1) 0) (subI .i64 (lenL l.fNeeds) 1)) r4)) true (neI ((gLadderLadderAt r5.2).getD dflt) (minI r4 (minI (maxI (shrI .i64 (nthI x5 i) 1) 0) (subI .i64 (lenL l.fNeeds) 1))))) then (
            some (.out (.out (.out (.out false))))
          ) else (
            some (.go (r5.2, (minI (maxI (shrI .i64 (nthI x5 i) 1) 0) (subI .i64 (lenL l.fNeeds) 1))))
          )
        ) else (
          some (.go (l, most))
        )
        : Option (Fl (LadderLadder × Int) (Fl (Int × LadderLadder) (Fl (Int × Int × LadderLadder) (Fl LadderLadder Bool))))) = some (.go (l2, m2)) := by
    by_cases hw : i < lenL x5
    · have b : InB i (lenL x5) := ⟨h0, hw⟩
      rw [need_t (under_of b), pickB_and, ltI_d, decide_eq_true hw, Bool.true_and]
      cases hq : eqI (bitsOp .and .i64 (nthI x5 i) 1) 1 with
      | false => exact ⟨l, most, by have := hl.b1; exact ⟨hl.n0, hl.n1, hl.nd, hl.at0, hl.at1, hl.mo, hl.b0, by have := hl.b1; omega, hl.g0, by have := hl.g1; omega, hl.m0, by have := hl.m1; omega, hl.s0, hl.s1⟩, hm, rfl, rfl⟩
      | true =>
        have hm0 := hl.m0
        have hm1 := hl.m1
        refine ⟨(wantF l (shrI .i64 (nthI x5 i) 1)).2, mostF (shrI .i64 (nthI x5 i) 1) (lenL l.fNeeds), want_ok hl _, ?_, ?_, ?_⟩
        · unfold wantF; split <;> rfl
        · unfold wantF; split <;> rfl
        · rw [cond_true, at_eq, bind_so, need_t b, need_t (show NonN 1 by unfold NonN; omega), need_t b, need_t (show NonN 1 by unfold NonN; omega), want_eq hr (by omega) (by omega), bind_so, mostI (by omega) (by omega), at_eq]
          simp only [Option.isSome_some, under_true, need_true, getD_so, pickB_or, neB_d, neI_d, minI_d, ltI_d]
          generalize hmo : mostF (shrI .i64 (nthI x5 i) 1) (lenL l.fNeeds) = mo
          have e : (decide ((wantF l (shrI .i64 (nthI x5 i) 1)).1 ≠ decide (mo < l.fAt)) || decide ((wantF l (shrI .i64 (nthI x5 i) 1)).2.fAt ≠ min l.fAt mo)) = false := by
            unfold wantF
            rw [hmo]
            by_cases hh : l.fAt ≤ mo
            · rw [if_pos hh]; simp; omega
            · rw [if_neg hh]; simp; omega
          rw [e]; rfl
    · rw [need_t (show Under (ltI i (lenL x5)) true (InB i (lenL x5)) from fun q => absurd (of_decide_eq_true q) hw), pickB_and, ltI_d, decide_eq_false hw]
      exact ⟨l, most, ⟨hl.n0, hl.n1, hl.nd, hl.at0, hl.at1, hl.mo, hl.b0, by have := hl.b1; omega, hl.g0, by have := hl.g1; omega, hl.m0, by have := hl.m1; omega, hl.s0, hl.s1⟩, hm, rfl, rfl⟩
  obtain ⟨l2, m2, k1, k2, k3, k4⟩ := key
  rw [k4]
  simp only [bind_so, flC_go]
  rw [at_eq, bind_so, need_t (show InB i (lenL x4) from ⟨h0, hc.1⟩), tick_eq k1 (by omega), bind_so, at_eq, bind_so]
  simp only [Option.isSome_some, under_true, need_true, getD_so]
  have ok := tick_ok k1 (nthI x4 i)
  have hmo : (tickF l2 (nthI x4 i)).2.fMost = m2 ∧ (tickF l2 (nthI x4 i)).2.fNeeds = l.fNeeds := by
    unfold tickF stepF
    split
    · split <;> exact ⟨k2, k3⟩
    · split
      · split <;> exact ⟨k2, k3⟩
      · exact ⟨k2, k3⟩
  have c1 : (tickF l2 (nthI x4 i)).1 = decide ((tickF l2 (nthI x4 i)).2.fAt ≠ l2.fAt) ∧ (tickF l2 (nthI x4 i)).2.fAt - l2.fAt ≤ 1 ∧ l2.fAt - (tickF l2 (nthI x4 i)).2.fAt ≤ 1 := by
    unfold tickF stepF
    split
    · split <;> simp <;> omega
    · split
      · split <;> simp <;> omega
      · simp
  have a0 := ok.at0
  have a1 := ok.at1
  rw [hmo.1] at a1
  have a2 := ok.mo
  have a3 := ok.n1
  have l0 := k1.at0
  have l1 := k1.at1
  have l3 := k1.mo
  have l4 := k1.n1
  rw [subI_n (by omega) (by omega), subI_n (by omega) (by omega)]
  have e2 : pickB (pickB (pickB (pickB (ltI (tickF l2 (nthI x4 i)).2.fAt 0) true (ltI m2 (tickF l2 (nthI x4 i)).2.fAt)) true (neB (tickF l2 (nthI x4 i)).1 (neI (tickF l2 (nthI x4 i)).2.fAt l2.fAt))) true (ltI 1 ((tickF l2 (nthI x4 i)).2.fAt - l2.fAt))) true (ltI 1 (l2.fAt - (tickF l2 (nthI x4 i)).2.fAt)) = false := by
    simp only [pickB_or, neB_d, neI_d, ltI_d, c1.1]
    simp
    omega
  rw [e2, cond_false, bind_so, flC_go, addI_n (by omega) (by omega)]
  refine ⟨⟨by simp only; omega, by simp only; omega, ?_, hmo.1, hmo.2⟩, by simp only; omega⟩
  have : (2 : Int) * i + 1 + 1 = 2 * (i + 1) := by omega
  rw [← this]; exact ok

theorem wants_true (x0 x1 x2 : Int) (x3 x4 x5 : List Int) : gLaw23LadderWants x0 x1 x2 x3 x4 x5 = some true := by
  unfold gLaw23LadderWants
  obtain ⟨n, hn, nd⟩ := needs_ok x3
  obtain ⟨a, ha, a0, a1⟩ := mask3 x0
  obtain ⟨b, hb, b0, b1⟩ := mask3 x1
  have hc : CfgOk (.mk (1 + a) (1 + b) 0) := by unfold CfgOk; simp only; omega
  rw [awake_t, hn, ha, hb, addI_n (by omega) (by omega), addI_n (by omega) (by omega)]
  simp only [bind_so, notB_t, cond_false]
  rw [new_eq _ _ _ (nd_len nd), if_pos (nd_new hc nd)]
  simp only [bind_so, optC_some]
  have e : neI 0 0 = false := by decide
  rw [e, cond_false, mostI (by have := nd.n0; omega) (by have := nd.n1; omega)]
  obtain ⟨t, ht, v, rfl⟩ := loop_ends (wantsI n) _ _ (wants_round x4 x5 n nd.n1 nd.n0) (0, mostF x2 (lenL n), .mk (.mk (1 + a) (1 + b) 0) n (mostF x2 (lenL n)) (mostF x2 (lenL n)) 0 0 0)
    ⟨by simp, by simp, nd_lad hc nd x2, rfl, rfl⟩
  rw [ht]; rfl

/-! ### LadderHolds -/
def holdsI (a b : Int) (n : List Int) (s : Int × Int × LadderLadder) : Prop :=
  0 ≤ s.1 ∧ s.1 ≤ 200 ∧ LadOk s.2.2 s.1 ∧ 0 ≤ s.2.1 ∧ s.2.1 ≤ s.1 ∧ s.2.2.fBad ≤ s.2.1 ∧ s.2.2.fGood ≤ s.2.1 ∧ s.2.2.fConfig = .mk (1 + a) (1 + b) 2 ∧ s.2.2.fNeeds = n
theorem tick_keeps (l : LadderLadder) (rate : Int) : (tickF l rate).2.fConfig = l.fConfig ∧ (tickF l rate).2.fNeeds = l.fNeeds := by
  unfold tickF stepF
  split
  · split <;> exact ⟨rfl, rfl⟩
  · split
    · split <;> exact ⟨rfl, rfl⟩
    · exact ⟨rfl, rfl⟩
theorem holds_round (x0 x1 : Int) (x3 : List Int) (a b : Int) (n : List Int) (ha : bitsOp .and .i64 x0 7 = a) (hb : bitsOp .and .i64 x1 7 = b) (ha0 : 0 ≤ a) (ha1 : a ≤ 7) (hb0 : 0 ≤ b) (hb1 : b ≤ 7) (s : Int × Int × LadderLadder) (hI : holdsI a b n s) :
    RoundP (holdsI a b n) (fun t : Fl LadderLadder Bool => ∃ v, t = .go v ∧ LadOk v 200 ∧ v.fConfig = .mk (1 + a) (1 + b) 2 ∧ v.fNeeds = n) (fun s => (200 - s.1).toNat) s (gLaw23LadderHolds.loop4 x0 x1 x3 s) := by
  obtain ⟨i, since, l⟩ := s
  obtain ⟨h0, h1, hl, h2, h3, h4, h5, h6, h7⟩ := hI
  simp only at h0 h1 hl h2 h3 h4 h5 h6 h7
  unfold gLaw23LadderHolds.loop4
  rw [ha, hb, addI_n (a := 1) (b := a) (by omega) (by omega), addI_n (a := 1) (b := b) (by omega) (by omega)]
  by_cases hc : i < lenL x3 ∧ i < 200
  case neg =>
    have e : pickB (ltI i (lenL x3)) (ltI i 200) false = false := by simp [pickB_and, ltI_d]; omega
    rw [e, cond_false]
    refine ⟨_, rfl, ?_, h6, h7⟩
    exact ⟨hl.n0, hl.n1, hl.nd, hl.at0, hl.at1, hl.mo, hl.b0, Int.le_trans hl.b1 h1, hl.g0, Int.le_trans hl.g1 h1, hl.m0, Int.le_trans hl.m1 h1, hl.s0, hl.s1⟩
  have e : pickB (ltI i (lenL x3)) (ltI i 200) false = true := by simp [pickB_and, ltI_d, hc]
  rw [e, cond_true]
  dsimp only
  rw [at_eq, bind_so, need_t (show InB i (lenL x3) from ⟨h0, hc.1⟩), tick_eq hl (by omega), bind_so, at_eq, bind_so, addI_n (a := since) (by omega) (by omega)]
  have ok := tick_ok hl (nthI x3 i)
  have kp := tick_keeps l (nthI x3 i)
  rw [h6, h7] at kp
  simp only [Option.isSome_some, under_true, need_true, getD_so]
  have i1 : addI .i64 i 1 = i + 1 := addI_n (by omega) (by omega)
  have bg := hl.b0
  have gg := hl.g0
  have mm := hl.m0
  cases ht : (tickF l (nthI x3 i)).1 with
  | false =>
    rw [notB_t', cond_true, bind_so, flC_go]
    refine ⟨⟨?_, ?_, ?_, ?_, ?_, ?_, ?_, kp.1, kp.2⟩, ?_⟩ <;> dsimp only <;> (try rw [i1]) <;> (try exact ok) <;> try omega
    · have := ok.b0
      revert ht
      unfold tickF stepF
      split
      · split <;> simp <;> omega
      · split
        · split <;> simp <;> omega
        · simp; omega
    · revert ht
      unfold tickF stepF
      split
      · split <;> simp <;> omega
      · split
        · split <;> simp <;> omega
        · simp; omega
  | true =>
    rw [notB_f', cond_false]
    have e2 : pickB (pickB (ltI (tickF l (nthI x3 i)).2.fAt l.fAt) (ltI (since + 1) (1 + a)) false) true (pickB (ltI l.fAt (tickF l (nthI x3 i)).2.fAt) (ltI (since + 1) (1 + b)) false) = false := by
      simp only [pickB_or, pickB_and, ltI_d]
      revert ht
      have d1 : l.fConfig.fDown = 1 + a := by rw [h6]
      have d2 : l.fConfig.fUp = 1 + b := by rw [h6]
      unfold tickF stepF
      split
      · split
        · simp; omega
        · simp
      · split
        · split
          · simp; omega
          · simp
        · simp
    rw [e2, cond_false, bind_so, flC_go]
    refine ⟨⟨?_, ?_, ?_, ?_, ?_, ?_, ?_, kp.1, kp.2⟩, ?_⟩ <;> dsimp only <;> (try rw [i1]) <;> (try exact ok) <;> try omega
    · revert ht
      unfold tickF stepF
      split
      · split <;> simp
      · split
        · split <;> simp
        · simp
    · revert ht
      unfold tickF stepF
      split
      · split <;> simp
      · split
        · split <;> simp
        · simp

def holdsJ (a b : Int) (n : List Int) (s : Int × LadderLadder) : Prop :=
  0 ≤ s.1 ∧ s.1 ≤ 50 ∧ LadOk s.2 (200 + s.1) ∧ s.2.fConfig = .mk (1 + a) (1 + b) 2 ∧ s.2.fNeeds = n
theorem holds_round2 (a b : Int) (n : List Int) (s : Int × LadderLadder) (hI : holdsJ a b n s) :
    RoundP (holdsJ a b n) (fun t : Fl LadderLadder Bool => ∃ v, t = .go v) (fun s => (50 - s.1).toNat) s (gLaw23LadderHolds.loop6 n s) := by
  obtain ⟨i, l⟩ := s
  obtain ⟨h0, h1, hl, h6, h7⟩ := hI
  simp only at h0 h1 hl h6 h7
  unfold gLaw23LadderHolds.loop6
  by_cases hc : i < 50
  case neg =>
    rw [ltI_d, decide_eq_false hc, cond_false]
    exact ⟨_, rfl⟩
  rw [ltI_d, decide_eq_true hc, cond_true]
  dsimp only
  have a0 := hl.at0
  have a1 := hl.at1
  have mo := hl.mo
  have n1 := hl.n1
  rw [h7] at mo n1
  rw [at_eq, bind_so, need_t (show InB l.fAt (lenL n) from ⟨a0, by omega⟩), tick_eq hl (by omega), bind_so, addI_n (a := l.fAt) (by omega) (by omega)]
  have ok := tick_ok hl (nthI n l.fAt)
  have kp := tick_keeps l (nthI n l.fAt)
  rw [h6, h7] at kp
  have z : NonZ 10 := by decide
  have u : ∀ p : Prop, (l.fAt + 1 < lenL n → p) → Under (leI (lenL n) (l.fAt + 1)) false (Under (tickF l (nthI n l.fAt)).1 true p) := fun p hp q _ => hp (by
    have := of_decide_eq_false q
    omega)
  rw [need_t (u _ fun h => ⟨by omega, h⟩), need_t (u _ fun h => ⟨by omega, h⟩), need_t (u _ fun _ => z), need_t (u _ fun _ => ⟨a0, by omega⟩)]
  have e2 : pickB (tickF l (nthI n l.fAt)).1 (pickB (leI (lenL n) (l.fAt + 1)) true (ltI (nthI n l.fAt) (addI .i64 (nthI n (l.fAt + 1)) (mulI .i64 (quoI .i64 (nthI n (l.fAt + 1)) 10) 2)))) false = false := by
    rw [pickB_and]
    cases ht : (tickF l (nthI n l.fAt)).1 with
    | false => rfl
    | true =>
      have hg : goodP l (nthI n l.fAt) := by
        revert ht
        unfold tickF
        split
        · rename_i hb
          have := hb.1
          rw [h7] at this
          omega
        · split
          · rename_i hg; exact fun _ => hg
          · simp
      obtain ⟨g1, g2⟩ := hg
      rw [h7, h6] at g2
      obtain ⟨d0, d1⟩ := hl.nd (l.fAt + 1) (by omega) (by rw [h7]; omega)
      rw [h7] at d0 d1
      rw [quoI_n d0 (by omega) (by omega), mulI_n (by omega) (by omega), addI_n (by omega) (by omega), Bool.true_and, pickB_or, ltI_d, leI_d]
      simp only at g2
      simp
      omega
  rw [e2, cond_false]
  have i1 : addI .i64 i 1 = i + 1 := addI_n (by omega) (by omega)
  refine ⟨⟨?_, ?_, ?_, kp.1, kp.2⟩, ?_⟩ <;> dsimp only <;> (try rw [i1]) <;> try omega
  rw [← Int.add_assoc]; exact ok

theorem holds_true (x0 x1 : Int) (x2 x3 : List Int) : gLaw23LadderHolds x0 x1 x2 x3 = some true := by
  unfold gLaw23LadderHolds
  obtain ⟨n, hn, nd⟩ := needs_ok x2
  obtain ⟨a, ha, a0, a1⟩ := mask3 x0
  obtain ⟨b, hb, b0, b1⟩ := mask3 x1
  have hc : CfgOk (.mk (1 + a) (1 + b) 2) := by unfold CfgOk; simp only; omega
  rw [awake_t, hn, ha, hb, addI_n (by omega) (by omega), addI_n (by omega) (by omega)]
  simp only [bind_so, notB_t, cond_false]
  rw [new_eq _ _ _ (nd_len nd), if_pos (nd_new hc nd)]
  simp only [bind_so, optC_some]
  have e : neI 0 0 = false := by decide
  rw [e, cond_false]
  obtain ⟨t, ht, v, rfl, v1, v2, v3⟩ := loop_ends (holdsI a b n) _ _ (holds_round x0 x1 x3 a b n ha hb a0 a1 b0 b1) (0, 0, .mk (.mk (1 + a) (1 + b) 2) n (mostF 2 (lenL n)) (mostF 2 (lenL n)) 0 0 0)
    ⟨by simp, by simp, nd_lad hc nd 2, by simp, by simp, by simp, by simp, rfl, rfl⟩
  rw [ht, bind_so, flC_go]
  obtain ⟨t, ht, v, rfl⟩ := loop_ends (holdsJ a b n) _ _ (holds_round2 a b n) (0, v) ⟨by simp, by simp, v1, v2, v3⟩
  rw [ht]; rfl
end Go.Proofs
