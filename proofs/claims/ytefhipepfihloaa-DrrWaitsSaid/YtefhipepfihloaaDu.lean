/- Which schedules may be; a flow that had nothing for a while: that the statements hold of what is computed. No condition. -/
import Derived.Test.YtefhipepfihloaaDt
import Derived.Test.YtefhipepfihloaaDmD
import Derived.Test.YtefhipepfihloaaDiD
namespace Go.Proofs
open Go.Ab

theorem drrMay_plain (x0 x1 : Int) : gLaw19DrrMay x0 x1 = some true := by
  unfold gLaw19DrrMay
  by_cases hm : 1 ≤ x0 ∧ x0 ≤ 16777216
  · obtain ⟨s0, e0, r0⟩ := new_ok hm.1 hm.2
    rw [e0]
    simp only [bind_so, optC_some, awake_ok]
    rw [leI_t hm.1, leI_t hm.2, eqI_t rfl]
    simp only [notB_f', pickB, cond_true, cond_false]
    rw [neB_d, decide_eq_false (by decide)]
    simp only [cond_false]
    by_cases hx : x1 < x0 ∨ 16777216 < x1
    · have hadd : gDrrSchedAdd s0 5 x1 = some (5, s0) := by
        unfold gDrrSchedAdd
        rw [r0.mo]
        have : pickB (ltI x1 x0) true (ltI 16777216 x1) = true := by
          rcases hx with h | h
          · rw [ltI_t h]; rfl
          · rw [ltI_t h]; cases ltI x1 x0 <;> rfl
        rw [this]; rfl
      have hrem : gDrrSchedRemove s0 5 = some (12, s0) := by
        unfold gDrrSchedRemove
        rw [r0.sh, eqI_t rfl]; rfl
      rw [hadd]
      simp only [bind_so]
      have hx' : pickB (ltI x1 x0) true (ltI 16777216 x1) = true := by
        rcases hx with h | h
        · rw [ltI_t h]; rfl
        · rw [ltI_t h]; cases ltI x1 x0 <;> rfl
      simp only [pickB] at hx'
      rw [hx']
      simp only [cond_true, eqI_t, hrem, bind_so]
    · obtain ⟨s1, e1, r1⟩ := add_ok r0 (id := 5) (q := x1) (by omega) (by omega) (by decide)
      rw [e1]
      simp only [bind_so]
      rw [ltI_f (by omega), ltI_f (by omega)]
      simp only [cond_false, eqI_t, cond_true]
      have hadd : gDrrSchedAdd s1 5 x1 = some (10, s1) := by
        unfold gDrrSchedAdd
        rw [r1.mo, r1.sh, ltI_f (by omega), ltI_f (by omega), ltI_t (by simp only [setF, if_true]; omega)]
        rfl
      rw [hadd]
      simp only [bind_so, eqI_t, cond_true]
      have hrem : ∃ s2, gDrrSchedRemove s1 5 = some (0, s2) ∧ gDrrSchedLeft s2 5 = some 0 := by
        unfold gDrrSchedRemove
        rw [r1.sh, eqI_f (by simp only [setF, if_true]; omega)]
        have hdel : getM eqI 5 0 (delM eqI 5 s1.fLeft) = 0 := by
          have hl := r1.lf
          have hs1 : s1.fLeft = [] := by
            have hs0 : s0.fLeft = [] := by
              have h0 := e0
              unfold gDrrNew at h0
              rw [ltI_f (by omega), ltI_f (by omega)] at h0
              simp only [pickB, cond_false, Option.some.injEq, Prod.mk.injEq] at h0
              rw [← h0.1]
            have h1 := e1
            unfold gDrrSchedAdd at h1
            rw [r0.mo, r0.sh, ltI_f (by omega), ltI_f (by omega), ltI_f (by decide)] at h1
            simp only [pickB, cond_false, Option.some.injEq, Prod.mk.injEq] at h1
            rw [← h1.2]; exact hs0
          rw [hs1]; rfl
        rw [r1.at_, eqI_f (by decide)]
        simp only [cond_false, bind_so, flC_go]
        exact ⟨_, rfl, by unfold gDrrSchedLeft; simp only; rw [hdel]⟩
      obtain ⟨s2, e2, e3⟩ := hrem
      rw [e2]
      simp only [bind_so, e3, eqI_t, getD_so]
      rw [need_t (show Under true true ((some (0 : Int)).isSome = true) from fun _ => rfl)]
      rfl
  · have hnew : gDrrNew x0 = some (none, 5) := by
      unfold gDrrNew
      have : pickB (ltI x0 1) true (ltI 16777216 x0) = true := by
        by_cases h : x0 < 1
        · rw [ltI_t h]; rfl
        · rw [ltI_t (by omega : 16777216 < x0)]; cases ltI x0 1 <;> rfl
      rw [this]; rfl
    have hp : pickB (leqI 1 x0) (leqI x0 16777216) false = false := by
      rw [pickB_and, leI_d, leI_d]
      simp only [Bool.and_eq_false_iff, decide_eq_false_iff_not]
      omega
    rw [hnew]
    simp only [bind_so, optC_none, awake_ok, hp]
    rw [eqI_f (by decide)]
    simp only [notB_f', notB_t', pickB, cond_true, cond_false, neB_d]
    rfl

theorem most_of (x : Int) : addI .i64 1 (bitsOp .and .i64 x 63) = 1 + x % 64 ∧ 1 ≤ 1 + x % 64 ∧ 1 + x % 64 ≤ 64 := by
  have e : bitsOp .and .i64 x 63 = x % 64 := and_mask' (j := 6) (by decide) x 63 (by decide)
  rw [e, addI_n (by omega) (by omega)]
  omega
theorem share_of (m x : Int) (h0 : 1 ≤ m) (h1 : m ≤ 64) : addI .i64 m (bitsOp .and .i64 x 255) = m + x % 256 ∧ m ≤ m + x % 256 ∧ m + x % 256 ≤ m + 255 := by
  have e : bitsOp .and .i64 x 255 = x % 256 := and_mask' (j := 8) (by decide) x 255 (by decide)
  rw [e, addI_n (by omega) (by omega)]
  omega

set_option maxRecDepth 100000 in
theorem drrIdle_plain (x0 x1 x2 : Int) : gLaw19DrrIdle x0 x1 x2 = some true := by
  obtain ⟨em, m0, m1⟩ := most_of x0
  obtain ⟨es, q0, q1⟩ := share_of (1 + x0 % 64) x1 m0 m1
  unfold gLaw19DrrIdle
  rw [em, es]
  generalize hm : 1 + x0 % 64 = m at *
  generalize hq : m + x1 % 256 = q at *
  obtain ⟨s0, e0, r0⟩ := new_ok (mo := m) (by omega) (by omega)
  obtain ⟨s1, e1, r1⟩ := add_ok r0 (id := 1) (q := q) q0 (by omega) (by decide)
  obtain ⟨s2, e2, r2⟩ := add_ok r1 (id := 2) (q := q) q0 (by omega) (by simp [setF])
  have hsh1 : setF (setF (fun _ => 0) 1 q) 2 q 1 = q := by simp [setF]
  have hsh2 : setF (setF (fun _ => 0) 1 q) 2 q 2 = q := by simp [setF]
  generalize setF (setF (fun _ => 0) 1 q) 2 q = sh at *
  -- while one flow alone has something
  obtain ⟨t1, ht1, f1, l1, mo1, a1, g1, rfl, lf1, hr1, hl1, hl2, hc1⟩ := loop_ends (body := gLaw19DrrIdle.loop1 x0 x2)
    (fun p => ∃ (i : Nat) (lf : Int → Int), i ≤ 60 ∧ p.1 = (i : Int) ∧ SR (DrrSched.mk p.2.2.2.1 p.2.1 p.2.2.1 p.2.2.2.2.1 p.2.2.2.2.2) m sh lf p.2.2.2.2.1 p.2.2.2.2.2 ∧ (0 ≤ lf 1 ∧ lf 1 ≤ q + m) ∧ lf 2 = 0 ∧
      ((p.2.2.2.2.1 = 0 ∧ p.2.2.2.2.2 = false ∧ lf 1 = 0) ∨ (p.2.2.2.2.1 = 1 ∧ p.2.2.2.2.2 = true)))
    (fun t => ∃ f l mo a g, t = .go (f, l, mo, a, g) ∧ ∃ lf, SR (DrrSched.mk mo f l a g) m sh lf a g ∧ (0 ≤ lf 1 ∧ lf 1 ≤ q + m) ∧ lf 2 = 0 ∧ ((a = 0 ∧ g = false ∧ lf 1 = 0) ∨ (a = 1 ∧ g = true)))
    (fun p => (60 - p.1).toNat) (by
      rintro ⟨n, f, l, mo, a, g⟩ ⟨i, lf, hi, rfl, hr, hl1, hl2, hc⟩
      simp only at hr hc
      unfold gLaw19DrrIdle.loop1
      simp only
      rw [em]
      by_cases hlt : (i : Int) < minI (maxI x2 0) 60
      · have hlt' : (i : Int) < 60 := by rw [minI_d, maxI_d] at hlt; omega
        obtain ⟨s', lf', c1, c2, c3, c4⟩ := step1 hr (sz := m) (by omega) ⟨by omega, by omega, by omega, by omega, by omega⟩ ⟨by omega, by omega⟩ (hc.imp (fun h => ⟨h.1, h.2.1⟩) id)
        rw [hsh1] at c4
        have hb : m ≤ lf' 1 ∧ lf' 1 ≤ q + 2 * m := by omega
        obtain ⟨s'', t1, t2⟩ := take_ok c2 (n := m) (by omega) hb.1 (by omega)
        rw [ltI_t hlt, cond_true, c1]
        simp only [bind_so, left_ok c2]
        rw [neI_f rfl, need_t (show Under _ false ((some (lf' 2)).isSome = true) from fun _ => rfl)]
        simp only [notB_f', pickB, cond_false, getD_so]
        rw [c3, neI_f rfl]
        simp only [cond_false, t1, bind_so]
        refine ⟨⟨i + 1, setF lf' 1 (lf' 1 - m), by omega, by simp only; rw [addI_n (by omega) (by omega)]; omega, ?_, ?_, ?_, .inr ⟨t2.at_, t2.gr⟩⟩, by simp only; rw [addI_n (by omega) (by omega)]; omega⟩
        · exact ⟨t2.mo, t2.sh, t2.lf, rfl, rfl⟩
        · simp only [setF, if_true]; omega
        · simp [setF, c3]
      · rw [ltI_f hlt, cond_false]
        exact ⟨_, _, _, _, _, rfl, lf, hr, hl1, hl2, hc⟩)
    (0, s2.fShare, s2.fLeft, s2.fMost, s2.fAt, s2.fGranted) ⟨0, _, by omega, rfl, ⟨r2.mo, r2.sh, r2.lf, rfl, rfl⟩, ⟨by decide, by omega⟩, rfl, .inl ⟨r2.at_, r2.gr, rfl⟩⟩
  -- both
  obtain ⟨t2, ht2, sent, f2, l2, mo2, a2, g2, rfl, hs0, hs1, hs2⟩ := loop_ends (body := gLaw19DrrIdle.loop2 x0)
    (fun p => ∃ (i : Nat) (lf : Int → Int), (i : Int) ≤ 1200 ∧ p.1 = (i : Int) ∧ SR (DrrSched.mk p.2.2.2.2.1 p.2.2.1 p.2.2.2.1 p.2.2.2.2.2.1 p.2.2.2.2.2.2) m sh lf p.2.2.2.2.2.1 p.2.2.2.2.2.2 ∧ (0 ≤ lf 1 ∧ lf 1 ≤ q + m) ∧
      ((p.2.1 = 0 ∧ lf 2 = 0 ∧ (i : Int) * m + lf 1 ≤ 2 * q + m ∧ ((p.2.2.2.2.2.1 = 0 ∧ p.2.2.2.2.2.2 = false ∧ i = 0 ∧ lf 1 = 0) ∨ (p.2.2.2.2.2.1 = 1 ∧ p.2.2.2.2.2.2 = true))) ∨
       (0 < p.2.1 ∧ p.2.1 + lf 2 = q ∧ 0 ≤ lf 2 ∧ (i : Int) * m + lf 2 ≤ 3 * q + m ∧ p.2.2.2.2.2.1 = 2 ∧ p.2.2.2.2.2.2 = true)))
    (fun t => ∃ sent f l mo a g, t = .go (sent, f, l, mo, a, g) ∧ 0 < sent ∧ sent ≤ q ∧ q - sent < m)
    (fun p => (1200 - p.1).toNat) (by
      rintro ⟨n, sent, f, l, mo, a, g⟩ hp
      obtain ⟨i, lf, hi, hp1, hr, hl1, hc⟩ := hp
      simp only at hp1 hr hc
      subst hp1
      unfold gLaw19DrrIdle.loop2
      simp only
      rw [em]
      by_cases hlt : i < 1200
      · obtain ⟨k, s', lf', c1, c2, c3⟩ := step2 hr (sz := m) (by omega) ⟨by omega, by omega, by omega, by omega, by omega⟩ (by
            rw [hsh2]
            rcases hc with ⟨_, h, _⟩ | ⟨_, h, h', _⟩ <;> exact ⟨by omega, by omega, by omega, by omega, by omega⟩) ⟨by omega, by omega⟩ (by
            rcases hc with ⟨_, _, _, ⟨h, h', _, _⟩ | ⟨h, h'⟩⟩ | ⟨_, _, _, _, h, h'⟩ <;> simp [h, h'])
        rw [hsh1, hsh2] at c3
        have hmul : ((i + 1 : Nat) : Int) * m = (i : Int) * m + m := by
          have : ((i + 1 : Nat) : Int) = (i : Int) + 1 := by omega
          rw [this, Int.add_mul, Int.one_mul]
        have hi0 : i = 0 → (i : Int) * m = 0 := fun h => by rw [h]; simp
        rw [ltI_t (by omega), cond_true, c1]
        simp only [bind_so, notB_f', cond_false]
        rcases hc with ⟨rfl, hl2, hk, ha⟩ | ⟨hs, hsl, hl2, hk, rfl, rfl⟩
        · -- the first one's turn
          rw [ltI_f (by omega)]
          have hp : pickB (eqI k 1) false false = false := by cases eqI k 1 <;> rfl
          rw [hp]
          simp only [cond_false]
          have hk2 : (k = 1 ∧ m ≤ lf' 1 ∧ lf' 1 ≤ q + 2 * m ∧ lf' 2 = 0 ∧ (i : Int) * m + lf' 1 ≤ 2 * q + m) ∨ (k = 2 ∧ lf' 2 = q ∧ 0 ≤ lf' 1 ∧ lf' 1 ≤ q + m ∧ (i : Int) * m ≤ 2 * q + m) := by
            rcases ha with ⟨rfl, _, h0, h00⟩ | ⟨rfl, _⟩
            · have := hi0 h0
              rcases c3 with ⟨_, rfl, b1, b2⟩ | ⟨h, _⟩ | ⟨h, _⟩ | ⟨h, _⟩ | ⟨h, _⟩
              · exact .inl ⟨rfl, by omega, by omega, by omega, by omega⟩
              all_goals exact absurd h (by decide)
            · rcases c3 with ⟨h, _⟩ | ⟨_, b0, rfl, b1, b2⟩ | ⟨_, b0, rfl, b1, b2⟩ | ⟨h, _⟩ | ⟨h, _⟩
              · exact absurd h (by decide)
              · exact .inl ⟨rfl, by omega, by omega, by omega, by omega⟩
              · exact .inr ⟨rfl, by omega, by omega, by omega, by omega⟩
              all_goals exact absurd h (by decide)
          rcases hk2 with ⟨rfl, b1, b2, b3, b4⟩ | ⟨rfl, b1, b2, b3, b4⟩
          · obtain ⟨s'', t1, t2⟩ := take_ok c2 (n := m) (by omega) b1 (by omega)
            rw [t1]
            simp only [bind_so]
            rw [eqI_f (by decide)]
            simp only [cond_false]
            refine ⟨⟨i + 1, setF lf' 1 (lf' 1 - m), by omega, by simp only; rw [addI_n (by omega) (by omega)]; omega, ⟨t2.mo, t2.sh, t2.lf, rfl, rfl⟩, by simp only [setF, if_true]; omega, .inl ⟨rfl, by simp [setF, b3], ?_, .inr ⟨t2.at_, t2.gr⟩⟩⟩,
              by simp only; rw [addI_n (by omega) (by omega)]; omega⟩
            rw [hmul]
            simp only [setF, if_true]; omega
          · obtain ⟨s'', t1, t2⟩ := take_ok c2 (n := m) (by omega) (by omega) (by omega)
            rw [t1]
            simp only [bind_so]
            rw [eqI_t rfl]
            simp only [cond_true]
            rw [addI_n (a := 0) (by omega) (by omega)]
            refine ⟨⟨i + 1, setF lf' 2 (lf' 2 - m), by omega, by simp only; rw [addI_n (by omega) (by omega)]; omega, ⟨t2.mo, t2.sh, t2.lf, rfl, rfl⟩, by simp [setF, b2, b3], .inr ⟨by simp only; omega, ?_, ?_, ?_, t2.at_, t2.gr⟩⟩,
              by simp only; rw [addI_n (by omega) (by omega)]; omega⟩
            · simp only [setF, if_true]; omega
            · simp only [setF, if_true]; omega
            · rw [hmul]
              simp only [setF, if_true]; omega
        · -- the other one's
          rw [ltI_t hs]
          rcases c3 with ⟨h, _⟩ | ⟨h, _⟩ | ⟨h, _⟩ | ⟨_, b0, rfl, b1, b2⟩ | ⟨_, b0, rfl, b1, b2⟩
          · exact absurd h (by decide)
          · exact absurd h (by decide)
          · exact absurd h (by decide)
          · rw [eqI_f (by decide)]
            simp only [pickB, cond_false]
            obtain ⟨s'', t1, t2⟩ := take_ok c2 (n := m) (by omega) (by omega) (by omega)
            rw [t1]
            simp only [bind_so]
            rw [eqI_t rfl]
            simp only [cond_true]
            rw [addI_n (a := sent) (by omega) (by omega)]
            refine ⟨⟨i + 1, setF lf' 2 (lf' 2 - m), by omega, by simp only; rw [addI_n (by omega) (by omega)]; omega, ⟨t2.mo, t2.sh, t2.lf, rfl, rfl⟩, by simp [setF, b1, hl1], .inr ⟨by simp only; omega, ?_, ?_, ?_, t2.at_, t2.gr⟩⟩,
              by simp only; rw [addI_n (by omega) (by omega)]; omega⟩
            · simp only [setF, if_true]; omega
            · simp only [setF, if_true]; omega
            · rw [hmul]
              simp only [setF, if_true]; omega
          · rw [eqI_t rfl]
            simp only [pickB, cond_true]
            exact ⟨_, _, _, _, _, _, rfl, hs, by omega, by omega⟩
      · have hi' : i = 1200 := by omega
        subst hi'
        exfalso
        rcases hc with ⟨_, _, hk, _⟩ | ⟨_, _, _, hk, _⟩ <;> omega)
    (0, 0, f1, l1, mo1, a1, g1) ⟨0, lf1, by omega, rfl, hr1, hl1, .inl ⟨rfl, hl2, by omega, by
      rcases hc1 with ⟨h, h', h0⟩ | ⟨h, h'⟩
      · exact .inl ⟨h, h', rfl, h0⟩
      · exact .inr ⟨h, h'⟩⟩⟩
  rw [e0]
  simp only [bind_so, optC_some, awake_ok]
  rw [neI_f rfl]
  simp only [notB_f', pickB, cond_false, e1, bind_so]
  rw [neI_f rfl]
  simp only [cond_false, e2, bind_so]
  rw [neI_f rfl]
  simp only [cond_false, ht1, bind_so, flC_go, ht2]
  rw [ltI_t hs0, leI_t hs1, subI_n (by omega) (by omega), ltI_t hs2]
  rfl
end Go.Proofs
