/- The laws of the buffer, as plain functions: they answer true. No condition. -/
import Derived.Test.YtkbfbedphdlgiaaRv
import Derived.Test.YtkbfbedphdlgiaaRmD
import Derived.Test.YtkbfbedphdlgiaaRwD
import Derived.Test.YtkbfbedphdlgiaaRyD
namespace Go.Proofs
open Go.Ab

theorem reorderMay_true (most wait : Int) : gLaw09ReorderMay most wait = some true := by
  unfold gLaw09ReorderMay
  by_cases hv : 1 ≤ most ∧ most ≤ 1024 ∧ 0 ≤ wait ∧ wait ≤ 1099511627776
  · obtain ⟨h1, h2, h3, h4⟩ := hv
    rw [new_ok (c := ⟨most, wait⟩) h1 h2 h3 h4]
    simp only [bind_so, optC_some, awake_ok, leI_t h1, leI_t h2, leI_t h3, leI_t h4]
    rfl
  · have hc : gReorderConfigCheck ⟨most, wait⟩ = some 5 := by
      unfold gReorderConfigCheck
      simp only [ltI_d]
      by_cases a1 : most < 1 <;> by_cases a2 : (1024 : Int) < most <;> by_cases a3 : wait < 0 <;> by_cases a4 : (1099511627776 : Int) < wait <;> simp [a1, a2, a3, a4, pickB]
      omega
    have hn : gReorderNew ⟨most, wait⟩ = some (none, 5) := by
      unfold gReorderNew
      rw [hc]; rfl
    rw [hn]
    simp only [bind_so, optC_none, awake_ok]
    have hp : pickB (pickB (pickB (leqI 1 most) (leqI most 1024) false) (leqI 0 wait) false) (leqI wait 1099511627776) false = false := by
      simp only [pickB_and, leI_d]
      rw [← Bool.not_eq_true]
      simp only [Bool.and_eq_true, decide_eq_true_eq]
      omega
    rw [hp]; rfl

/-- What goes out rises on. -/
theorem rise_loop (r3 : Antiphonlaw09State × List Antiphonref09Thing × Bool) (hl : r3.2.1.length ≤ 2000000) {hi : Int} : ∀ (k i : Nat) (last lo : Int), r3.2.1.length - i = k → i ≤ r3.2.1.length → last < lo → Ris lo (r3.2.1.drop i) hi →
    ∃ l', loopF (gLaw09ReorderPlays.loop2 r3) ((i : Int), last) = some (.go l') ∧ l' < hi := by
  intro k
  induction k with
  | zero =>
    intro i last lo hk hi' hlt hr
    have hil : i = r3.2.1.length := by omega
    refine ⟨last, ?_, ?_⟩
    · rw [loopF_eq]
      have : gLaw09ReorderPlays.loop2 r3 ((i : Int), last) = some (.out (.go last)) := by
        unfold gLaw09ReorderPlays.loop2
        rw [ltI_f (by rw [lenL_def]; simp only; omega)]; rfl
      rw [this]
    · rw [hil, List.drop_length] at hr
      simp only [Ris] at hr
      omega
  | succ k ih =>
    intro i last lo hk hi' hlt hr
    have hlt' : i < r3.2.1.length := by omega
    have hin : InB (i : Int) (lenL r3.2.1) := ⟨by omega, by rw [lenL_def]; omega⟩
    rw [drop_cons' hlt'] at hr
    obtain ⟨h1, h2⟩ := hr
    obtain ⟨l', q1, q2⟩ := ih (i + 1) (nthI r3.2.1 (i : Int)).fAt _ (by omega) (by omega) (by omega) h2
    refine ⟨l', ?_, q2⟩
    rw [loopF_eq]
    have : gLaw09ReorderPlays.loop2 r3 ((i : Int), last) = some (.go (((i + 1 : Nat) : Int), (nthI r3.2.1 (i : Int)).fAt)) := by
      unfold gLaw09ReorderPlays.loop2
      rw [ltI_t hin.2]
      simp only [cond_true]
      rw [need_t hin, leI_f (by omega), addI_n (by omega) (by omega)]; rfl
    rw [this]; exact q1

theorem eq_loop (r5 : List Int) (hl : r5.length ≤ 2000000) : loopF (gLaw09ReorderPlays.loop3 r5 r5) 0 = some (.go ()) := by
  have key : ∀ (k i : Nat), r5.length - i = k → i ≤ r5.length → loopF (gLaw09ReorderPlays.loop3 r5 r5) (i : Int) = some (.go ()) := by
    intro k
    induction k with
    | zero =>
      intro i hk hi
      rw [loopF_eq]
      have : gLaw09ReorderPlays.loop3 r5 r5 (i : Int) = some (.out (.go ())) := by
        unfold gLaw09ReorderPlays.loop3
        rw [ltI_f (by rw [lenL_def]; omega)]; rfl
      rw [this]
    | succ k ih =>
      intro i hk hi
      have hin : InB (i : Int) (lenL r5) := ⟨by omega, by rw [lenL_def]; omega⟩
      rw [loopF_eq]
      have : gLaw09ReorderPlays.loop3 r5 r5 (i : Int) = some (.go ((i + 1 : Nat) : Int)) := by
        unfold gLaw09ReorderPlays.loop3
        rw [ltI_t hin.2]
        simp only [cond_true]
        rw [need_t hin, need_t hin, neI_f rfl, addI_n (by omega) (by omega)]; rfl
      rw [this]
      exact ih (i + 1) (by omega) (by omega)
  have := key r5.length 0 (by omega) (by omega)
  simpa using this

theorem and7 (a : Int) : bitsOp .and .i64 a 7 = a % 8 := and_mask' (j := 3) (by omega) a 7 rfl

theorem miss_len (most : Int) : ∀ (L : List Thg) (a : Int) (out : List Int), lenL (missS most a out L) ≤ max (lenL out) most
  | [], a, out => by simp only [missS]; omega
  | t :: r, a, out => by
    have := fill_len most (t.fAt - a).toNat a out
    have := miss_len most r (t.fAt + 1) (fillS most (t.fAt - a).toNat a out)
    simp only [missS]; omega

theorem stMk (s : Antiphonlaw09State) : Antiphonlaw09State.mk (ReorderBuffer.mk s.fB.fConfig s.fB.fBegun s.fB.fNext s.fB.fOf s.fB.fLost) s.fX s.fNow = s := rfl

theorem reorderPlays_true (most wait : Int) (acts : List Antiphonlaw09Act) : gLaw09ReorderPlays most wait acts = some true := by
  obtain ⟨s0, hb0, hs0, hd0, hn0, hx0⟩ := begin_ok most wait
  unfold gLaw09ReorderPlays
  rw [hb0]
  simp only [bind_so, awake_ok, notB_t, pickB_f, cond_false]
  obtain ⟨t, ht, v, rfl⟩ := loop_ends (body := gLaw09ReorderPlays.loop1 acts)
    (fun s => ∃ (i : Nat) (st : Antiphonlaw09State), s.1 = (i : Int) ∧ i ≤ 150 ∧ s.2.2 = (st.fB.fOf, st.fB.fConfig, st.fB.fBegun, st.fB.fNext, st.fB.fLost, st.fX, st.fNow) ∧ SInv st ∧ Bd (2000 + 24 * i) st.fX ∧ st.fNow ≤ 31 * i ∧ s.2.1 < st.fX.fNext)
    (fun t => ∃ v, t = .go v) (fun s => 150 - s.1.toNat)
    (fun s ⟨i, st, e1, e2, e3, e4, e5, e6, e7⟩ => by
      obtain ⟨s1, last, rest⟩ := s
      simp only at e1 e3 e7
      subst e1; subst e3
      unfold gLaw09ReorderPlays.loop1
      by_cases hc : (i : Int) < lenL acts ∧ i < 150
      · rw [ltI_t hc.1, ltI_t (by omega)]
        simp only [pickB_t, cond_true]
        have hin : InB (i : Int) (lenL acts) := ⟨by omega, hc.1⟩
        obtain ⟨s', out, hdo, hs', hd', hn', hr', hl', hm', _⟩ := does_ok e4 (nthI acts (i : Int)) (B := 2000 + 24 * i) (by omega) (by omega) e5 (by omega)
        rw [need_t hin, stMk, hdo]
        simp only [bind_so]
        have hlen : gReorderBufferLen s'.fB = some (lenL s'.fX.fL) := by unfold gReorderBufferLen; rw [hs'.rel.mp.len]
        have hnext : gReorderBufferNext s'.fB = some (s'.fX.fNext, s'.fX.fBegun) := by unfold gReorderBufferNext; rw [hs'.rel.nx, hs'.rel.bg]
        have hlost : gReorderBufferLost s'.fB = some s'.fX.fLost := by unfold gReorderBufferLost; rw [hs'.rel.lo]
        rw [hnext]
        simp only [bind_so, hlen, hlost, Option.isSome_some, getD_so, notB_t, neI_f rfl, pickB_f]
        rw [need_t (under_of trivial), need_t (under_of trivial), need_t (under_of trivial), ltI_f (by have := hs'.inv.ml; omega)]
        have hnb : neB s'.fX.fBegun s'.fX.fBegun = false := by cases s'.fX.fBegun <;> rfl
        simp only [hnb, pickB_f, cond_false]
        obtain ⟨l', q1, q2⟩ := rise_loop (s', out, true) hl' out.length 0 last st.fX.fNext (by simp) (by omega) e7 (by simpa using hr')
        simp only [Int.natCast_zero] at q1
        rw [q1]
        simp only [bind_so, flC_go]
        have hk : 0 ≤ (nthI acts (i : Int)).fBy % 8 ∧ (nthI acts (i : Int)).fBy % 8 < 8 := ⟨Int.emod_nonneg _ (by omega), Int.emod_lt_of_pos _ (by omega)⟩
        rw [need_t hin, and7, omissing hs'.rel hs'.inv.toOk hk.1 (by omega), rmissing hs'.inv.toOk hk.1 (by omega)]
        simp only [bind_so, neI_f rfl, cond_false]
        have hml := miss_len ((nthI acts (i : Int)).fBy % 8) s'.fX.fL s'.fX.fNext []
        rw [lenL_nil, lenL_def] at hml
        rw [eq_loop _ (by omega)]
        simp only [bind_so, flC_go]
        rw [addI_n (by omega) (by omega)]
        refine ⟨⟨i + 1, s', by simp, by omega, rfl, hs', ?_, by omega, q2⟩, by simp only; omega⟩
        have : (2000 : Int) + 24 * ((i + 1 : Nat) : Int) = 2000 + 24 * (i : Int) + 24 := by omega
        rw [this]; exact hd'
      · have : pickB (ltI (i : Int) (lenL acts)) (ltI (i : Int) 150) false = false := by
          rw [pickB_and, ltI_d, ltI_d, ← Bool.not_eq_true]
          simp only [Bool.and_eq_true, decide_eq_true_eq]
          omega
        simp only [this]
        exact ⟨_, rfl⟩) (0, -1, s0.fB.fOf, s0.fB.fConfig, s0.fB.fBegun, s0.fB.fNext, s0.fB.fLost, s0.fX, s0.fNow)
    ⟨0, s0, rfl, by omega, rfl, hs0, by simpa using hd0, by omega, by simp only; omega⟩
  rw [ht]
  simp only [bind_so, flC_go]

theorem reorderWaits_true (most wait : Int) (acts : List Antiphonlaw09Act) : gLaw09ReorderWaits most wait acts = some true := by
  obtain ⟨s0, hb0, hs0, hd0, hn0, hx0⟩ := begin_ok most wait
  unfold gLaw09ReorderWaits
  rw [hb0]
  simp only [bind_so, awake_ok, notB_t, pickB_f, cond_false]
  obtain ⟨t, ht, st, hs, rfl⟩ := loop_ends (body := gLaw09ReorderWaits.loop1 acts)
    (fun s => ∃ (i : Nat) (st : Antiphonlaw09State), s.1 = (i : Int) ∧ i ≤ 100 ∧ s.2 = (st.fB.fOf, st.fB.fConfig, st.fB.fBegun, st.fB.fNext, st.fB.fLost, st.fX, st.fNow) ∧ SInv st ∧ Bd (2000 + 24 * i) st.fX ∧ st.fNow ≤ 31 * i)
    (fun t => ∃ st : Antiphonlaw09State, SInv st ∧ t = .go (st.fB.fOf, st.fB.fConfig, st.fB.fBegun, st.fB.fNext, st.fB.fLost, st.fX, st.fNow)) (fun s => 100 - s.1.toNat)
    (fun s ⟨i, st, e1, e2, e3, e4, e5, e6⟩ => by
      obtain ⟨s1, rest⟩ := s
      simp only at e1 e3
      subst e1; subst e3
      unfold gLaw09ReorderWaits.loop1
      by_cases hc : (i : Int) < lenL acts ∧ i < 100
      · rw [ltI_t hc.1, ltI_t (by omega)]
        simp only [pickB_t, cond_true]
        have hin : InB (i : Int) (lenL acts) := ⟨by omega, hc.1⟩
        obtain ⟨s', out, hdo, hs', hd', hn', hr', hl', hm', htk⟩ := does_ok e4 (nthI acts (i : Int)) (B := 2000 + 24 * i) (by omega) (by omega) e5 (by omega)
        rw [need_t hin, stMk, hdo]
        simp only [bind_so, notB_t, cond_false]
        rw [need_t hin]
        have hz : pickB (pickB (eqI (nthI acts (i : Int)).fKind 2) (ltI 0 (lenL s'.fX.fL)) false) (leqI s'.fX.fWait (subI .i64 s'.fNow (nthI s'.fX.fL 0).fTick)) false = false := by
          by_cases hk : (nthI acts (i : Int)).fKind = 2
          · have hq := htk hk
            cases hL : s'.fX.fL with
            | nil => simp [ltI, pickB]
            | cons u r =>
              simp only [cTick, hL, decide_eq_false_iff_not] at hq
              obtain ⟨_, t0, t1⟩ := hs'.inv.at_ u (by rw [hL]; exact .head _)
              have := hs'.now
              rw [nthI_zero, subI_n (by omega) (by omega), leI_f hq, pickB_and, Bool.and_false]
          · rw [eqI_f hk, pickB_f, pickB_f]
        rw [need_t (by
          intro hp
          rw [pickB_and, Bool.and_eq_true] at hp
          exact ⟨by omega, by simpa [ltI] using hp.2⟩)]
        rw [hz]
        simp only [cond_false]
        rw [addI_n (by omega) (by omega)]
        refine ⟨⟨i + 1, s', by simp, by omega, rfl, hs', ?_, by omega⟩, by simp only; omega⟩
        have : (2000 : Int) + 24 * ((i + 1 : Nat) : Int) = 2000 + 24 * (i : Int) + 24 := by omega
        rw [this]; exact hd'
      · have : pickB (ltI (i : Int) (lenL acts)) (ltI (i : Int) 100) false = false := by
          rw [pickB_and, ltI_d, ltI_d, ← Bool.not_eq_true]
          simp only [Bool.and_eq_true, decide_eq_true_eq]
          omega
        simp only [this]
        exact ⟨st, e4, rfl⟩) (0, s0.fB.fOf, s0.fB.fConfig, s0.fB.fBegun, s0.fB.fNext, s0.fB.fLost, s0.fX, s0.fNow)
    ⟨0, s0, rfl, by omega, rfl, hs0, by simpa using hd0, by omega⟩
  rw [ht]
  simp only [bind_so, flC_go]
  have e : (ReorderBuffer.mk st.fB.fConfig st.fB.fBegun st.fB.fNext st.fB.fOf st.fB.fLost) = st.fB := rfl
  rw [e]
  obtain ⟨b', q1, q2⟩ := oflush hs.rel hs.inv
  obtain ⟨f1, f2⟩ := flush_inv hs.inv
  rw [q1]
  simp only [bind_so]
  have hlen : gReorderBufferLen b' = some 0 := by unfold gReorderBufferLen; rw [q2.mp.len, f2]; rfl
  have hmiss : gReorderBufferMissing b' 9 = some [] := by rw [omissing q2 f1.toOk (by decide) (by decide), f2]; rfl
  rw [hlen]
  simp only [bind_so, hmiss, Option.isSome_some, getD_so]
  rw [need_t (under_of trivial)]
  obtain ⟨b'', q3, q4⟩ := oflush q2 f1
  rw [q3]
  have : (flushS (flushS st.fX).1).2 = [] := by unfold flushS at f2 ⊢; rw [f2]; rfl
  rw [this]
  rfl
end Go.Proofs
