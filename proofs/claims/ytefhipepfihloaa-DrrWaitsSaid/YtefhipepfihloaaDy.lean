/- No flow waits for more than one turn: that the statement holds of what is computed. No condition. -/
import Derived.Test.YtefhipepfihloaaDu
import Derived.Test.YtefhipepfihloaaDnD
namespace Go.Proofs
open Go.Ab

def rangeI (n : Nat) : List Int := (List.range n).map fun (k : Nat) => (k : Int)
def headsI (n : Nat) (m : Int) : List Hd := (List.range n).map fun (k : Nat) => ⟨(k : Int), m⟩
theorem headsI_ids (n : Nat) (m : Int) : (headsI n m).map (·.fId) = rangeI n := by simp [headsI, rangeI, Function.comp_def]
theorem rangeI_len (n : Nat) : (rangeI n).length = n := by simp [rangeI]
theorem rangeI_get {n q : Nat} (h : q < (rangeI n).length) : (rangeI n)[q] = (q : Int) := by simp [rangeI]
theorem rangeI_mem {n : Nat} {x : Int} : x ∈ rangeI n ↔ 0 ≤ x ∧ x < n := by
  unfold rangeI
  rw [List.mem_map]
  constructor
  · rintro ⟨k, hk, rfl⟩
    have := List.mem_range.1 hk
    omega
  · rintro ⟨h0, h1⟩
    exact ⟨x.toNat, List.mem_range.2 (by omega), by omega⟩
theorem rangeI_up (n : Nat) : (rangeI n).Pairwise (· < ·) := by
  rw [List.pairwise_iff_getElem]
  intro i j hi hj hij
  rw [rangeI_get, rangeI_get]; omega
theorem headsI_succ (n : Nat) (m : Int) : headsI (n + 1) m = headsI n m ++ [⟨(n : Int), m⟩] := by simp [headsI, List.range_succ]
theorem headsI_mem {n : Nat} {m : Int} {h : Hd} (hh : h ∈ headsI n m) : 0 ≤ h.fId ∧ h.fId < n ∧ h.fSize = m := by
  obtain ⟨k, hk, rfl⟩ := List.mem_map.1 hh
  have := List.mem_range.1 hk
  exact ⟨by simp only; omega, by simp only; omega, rfl⟩

theorem afterN {n : Nat} (hn : 0 < n) (hn2 : n ≤ 1000000) {x : Int} (hx : 0 ≤ x ∧ x < n) : gDrrAfter (rangeI n) x = some ((x + 1) % n) := by
  have h := after_ok (l := rangeI n) (rangeI_up n) (by rw [rangeI_len]; exact hn) (by rw [rangeI_len]; omega) (x := x) (x.toNat + 1) (by rw [rangeI_len]; omega)
    (fun q hq hqc => by rw [rangeI_get]; omega) (fun q hq hqc => by rw [rangeI_get]; omega)
  rw [h, rangeI_len]
  have hlt := Nat.mod_lt (x.toNat + 1) hn
  rw [nthI_get (by rw [rangeI_len]; exact hlt), rangeI_get]
  congr 1
  have : x + 1 = ((x.toNat + 1 : Nat) : Int) := by omega
  rw [this]; omega

theorem choose_nil {s : DrrSched} : ∃ s', gDrrSchedChoose s [] = some (0, false, s') := by
  have hk : gDrrSchedKnown s [] = some [] := known_ok s [] (fun h hh => by cases hh) (by simp) (by simp)
  unfold gDrrSchedChoose
  rw [hk]
  simp only [bind_so]
  rw [need_t (KeysB_of (l := keysM ([] : List (Int × Int))) (fun x hx => by cases hx) (by simp [keysM]))]
  have : sortL (keysM ([] : List (Int × Int))) = [] := sortL_of (.refl _) .nil
  rw [this, eqI_t (show lenL ([] : List Int) = 0 from rfl)]
  exact ⟨_, rfl⟩

/-- n flows, all of whose heads have the size m. -/
theorem stepN {s : DrrSched} {m : Int} {sh lf : Int → Int} {a : Int} {gr : Bool} {n : Nat} (hr : SR s m sh lf a gr) (hm : 0 ≤ m ∧ m ≤ 1000000000) (hn : 0 < n) (hn2 : n ≤ 1000000)
    (hs : ∀ k : Int, 0 ≤ k → k < n → m ≤ sh k ∧ sh k ≤ 1000000000 ∧ 0 ≤ lf k ∧ lf k ≤ 1000000000 ∧ 0 < sh k) (ha : 0 ≤ a ∧ a < n) :
    ∃ k s' lf', gDrrSchedChoose s (headsI n m) = some (k, true, s') ∧ SR s' m sh lf' k true ∧ (0 ≤ k ∧ k < n) ∧ (∀ x : Int, 0 ≤ x → x < n → lf' x = lf x ∨ lf' x = lf x + sh x) ∧ m ≤ lf' k ∧
      (k = a ∨ (gr = true ∧ k = (a + 1) % n)) := by
  have hmod : ∀ x : Int, 0 ≤ (x + 1) % n ∧ (x + 1) % n < n := fun x => ⟨Int.emod_nonneg _ (by omega), Int.emod_lt_of_pos _ (by omega)⟩
  have hc := choose_ok hr (l := headsI n m) hm.2 (by simp [headsI]; omega) (fun h hh => by
      obtain ⟨h1, h2, h3⟩ := headsI_mem hh
      obtain ⟨q1, q2, q3, q4, q5⟩ := hs _ h1 h2
      exact ⟨q1, q2, q3, q4, q5, by omega, by omega⟩) (by rw [headsI_ids]; exact rangeI_up n) (by
        intro h
        have := congrArg List.length h
        simp [headsI] at this
        omega)
    (fun h hh => by
      obtain ⟨h1, h2, h3⟩ := headsI_mem hh
      omega)
    (fun x => (x + 1) % n) (fun x hx => by
      rw [headsI_ids] at hx ⊢
      have hx' : 0 ≤ x ∧ x < n := by
        rcases hx with rfl | hx
        · exact ha
        · exact rangeI_mem.1 hx
      exact ⟨afterN hn hn2 hx', rangeI_mem.2 (hmod x)⟩)
  rw [headsI_ids] at hc
  have ham : a ∈ rangeI n := rangeI_mem.2 ha
  simp only [if_pos ham] at hc
  obtain ⟨z, s', hz, hq⟩ := hc
  have hzm : z = m := (headsI_mem hz).2.2
  subst hzm
  obtain ⟨a1, a2, a3, a4, a5⟩ := hs a ha.1 ha.2
  rcases hq with ⟨q1, q2, q3⟩ | ⟨q0, q1, q2, q3⟩
  · refine ⟨a, s', _, q2, q3, ha, fun x h0 h1 => ?_, q1, .inl rfl⟩
    have hx : x ∈ rangeI n := rangeI_mem.2 ⟨h0, h1⟩
    cases gr with
    | true => left; simp [hx]
    | false =>
      by_cases hxa : x = a
      · subst hxa; right; simp [setF]
      · left; simp [setF, hx, hxa]
  · subst q0
    have hnx := hmod a
    have hxx : (a + 1) % (n : Int) ∈ rangeI n := rangeI_mem.2 hnx
    obtain ⟨b1, b2, b3, b4, b5⟩ := hs _ hnx.1 hnx.2
    refine ⟨_, s', _, q2, q3, hnx, fun x h0 h1 => ?_, ?_, .inr ⟨rfl, rfl⟩⟩
    · have hx : x ∈ rangeI n := rangeI_mem.2 ⟨h0, h1⟩
      by_cases hxa : x = (a + 1) % n
      · subst hxa; right; simp [setF, hx]
      · left; simp [setF, hx, hxa]
    · simp only [if_true, setF, if_pos hxx]
      omega

/-- The turns go round. -/
def Cyc (n : Nat) (l : List Int) : Prop := ∀ (i : Nat) (h : i + 1 < l.length), l[i + 1] = (l[i] + 1) % n
theorem Cyc.push {n : Nat} {l : List Int} {a k : Int} (h : Cyc n l) (hl : ∀ h : 0 < l.length, l[l.length - 1] = a) (hk : 0 < l.length → k = (a + 1) % n) : Cyc n (l ++ [k]) := by
  intro i hi
  simp only [List.length_append, List.length_cons, List.length_nil] at hi
  by_cases hlt : i + 1 < l.length
  · rw [List.getElem_append_left hlt, List.getElem_append_left (by omega)]
    exact h i hlt
  · have e : i + 1 = l.length := by omega
    rw [List.getElem_append_right (by omega), List.getElem_append_left (by omega)]
    have hpos : 0 < l.length := by omega
    have h1 := hl hpos
    have h2 := hk hpos
    have e2 : l[i] = l[l.length - 1] := by congr 1; omega
    simp only [List.getElem_singleton]
    rw [e2, h1, h2]

set_option maxRecDepth 100000 in
theorem drrWaits_plain (x0 : Int) (x1 : List Int) (x2 : Int) : gLaw19DrrWaits x0 x1 x2 = some true := by
  obtain ⟨em, m0, m1⟩ := most_of x0
  unfold gLaw19DrrWaits
  rw [em]
  have hn : ∃ n : Nat, n ≤ 6 ∧ n ≤ x1.length ∧ minI (lenL x1) 6 = (n : Int) := ⟨min x1.length 6, by omega, by omega, by rw [minI_d]; unfold lenL; omega⟩
  obtain ⟨n, hn6, hnl, en⟩ := hn
  obtain ⟨s0, e0, r0⟩ := new_ok (mo := 1 + x0 % 64) (by omega) (by omega)
  generalize hm : 1 + x0 % 64 = m at *
  -- the flows
  obtain ⟨t4, ht4, f4, l4, o4, a4, g4, sh, rfl, hr4, hsh⟩ := loop_ends (body := gLaw19DrrWaits.loop4 x0 x1)
    (fun p => ∃ (i : Nat) (sh : Int → Int), i ≤ n ∧ p.1 = (i : Int) ∧ p.2.1 = headsI i m ∧ SR (DrrSched.mk p.2.2.2.2.1 p.2.2.1 p.2.2.2.1 p.2.2.2.2.2.1 p.2.2.2.2.2.2) m sh (fun _ => 0) 0 false ∧
      (∀ k : Int, 0 ≤ k → k < i → m ≤ sh k ∧ sh k ≤ m + 255) ∧ ∀ k : Int, (i : Int) ≤ k → sh k = 0)
    (fun t => ∃ f l mo a g sh, t = .go (headsI n m, f, l, mo, a, g) ∧ SR (DrrSched.mk mo f l a g) m sh (fun _ => 0) 0 false ∧ ∀ k : Int, 0 ≤ k → k < n → m ≤ sh k ∧ sh k ≤ m + 255)
    (fun p => ((n : Int) - p.1).toNat) (by
      rintro ⟨c, hd, f, l, mo, a, g⟩ hp
      obtain ⟨i, sh, hi, hp1, hp2, hr, h1, h2⟩ := hp
      simp only at hp1 hp2 hr
      subst hp1; subst hp2
      unfold gLaw19DrrWaits.loop4
      simp only
      rw [em, en]
      by_cases hlt : i < n
      · have hnth : ∃ y : Int, nthI x1 (i : Int) = y := ⟨_, rfl⟩
        obtain ⟨y, hy⟩ := hnth
        obtain ⟨es, q0, q1⟩ := share_of m y m0 m1
        rw [ltI_t (by omega), cond_true, need_t (show InB _ _ from ⟨by omega, by unfold lenL; omega⟩), hy, es]
        obtain ⟨s', c1, c2⟩ := add_ok hr (id := (i : Int)) (q := m + y % 256) (by omega) (by omega) (by rw [h2 _ (Int.le_refl _)]; decide)
        rw [c1]
        simp only [bind_so]
        have hhl : lenL (headsI i m) = (i : Int) := by simp [lenL, headsI]
        rw [neI_f rfl, cond_false, hhl, need_t (show AppB _ 1 16 from ⟨by omega, by omega⟩)]
        have ei : addI .i64 (i : Int) 1 = ((i + 1 : Nat) : Int) := by rw [addI_n (by omega) (by omega)]; omega
        refine ⟨⟨i + 1, setF sh (i : Int) (m + y % 256), by omega, ei, ?_, c2, fun k hk0 hk1 => ?_, fun k hk => ?_⟩, by simp only; rw [ei]; omega⟩
        · rw [headsI_succ]; rfl
        · by_cases hki : k = (i : Int)
          · subst hki; simp only [setF, if_true]; omega
          · simp only [setF, if_neg hki]
            exact h1 k hk0 (by omega)
        · have hki : k ≠ (i : Int) := by omega
          simp only [setF, if_neg hki]
          exact h2 k (by omega)
      · rw [ltI_f (by omega), cond_false]
        have : i = n := by omega
        subst this
        exact ⟨_, _, _, _, _, sh, rfl, ⟨hr.mo, hr.sh, hr.lf, hr.at_, hr.gr⟩, h1⟩)
    (0, [], s0.fShare, s0.fLeft, s0.fMost, s0.fAt, s0.fGranted) ⟨0, _, by omega, rfl, rfl, r0.mk', fun k h0 h1 => by omega, fun k _ => rfl⟩
  -- the turns
  obtain ⟨t5, ht5, turns, w5, rfl, hcy, hz, hlen5⟩ := loop_ends (body := gLaw19DrrWaits.loop5 x0 x1 x2 (headsI n m, f4, l4, o4, a4, g4))
    (fun p => ∃ (i : Nat) (lf : Int → Int), (i : Int) ≤ 200 ∧ p.1 = (i : Int) ∧ SR (DrrSched.mk p.2.2.2.2.2.1 p.2.2.2.1 p.2.2.2.2.1 p.2.2.2.2.2.2.1 p.2.2.2.2.2.2.2) m sh lf p.2.2.2.2.2.2.1 p.2.2.2.2.2.2.2 ∧
      (∀ k : Int, 0 ≤ k → k < n → 0 ≤ lf k ∧ lf k ≤ 320 * (i : Int)) ∧ p.2.2.1.length ≤ i ∧ Cyc n p.2.2.1 ∧ (∀ k ∈ p.2.2.1, 0 ≤ k ∧ k < (n : Int)) ∧
      ((p.2.2.1 = [] ∧ p.2.1 = -1 ∧ p.2.2.2.2.2.2.1 = 0 ∧ p.2.2.2.2.2.2.2 = false) ∨ (0 < n ∧ 0 < p.2.2.1.length ∧ (∀ h : 0 < p.2.2.1.length, p.2.2.1[p.2.2.1.length - 1] = p.2.1) ∧ p.2.1 = p.2.2.2.2.2.2.1 ∧ (0 ≤ p.2.1 ∧ p.2.1 < n) ∧ p.2.2.2.2.2.2.2 = true)))
    (fun t => ∃ turns w, t = .go (turns, w) ∧ Cyc n turns ∧ (∀ k ∈ turns, 0 ≤ k ∧ k < (n : Int)) ∧ turns.length ≤ 200)
    (fun p => (200 - p.1).toNat) (by
      rintro ⟨c, last, tu, f, l, mo, a, g⟩ hp
      obtain ⟨i, lf, hi, hp1, hr, hlf, htl, hcy, hk, hc⟩ := hp
      simp only at hp1 hr hlf htl hcy hk hc
      subst hp1
      unfold gLaw19DrrWaits.loop5
      simp only
      rw [em, en]
      by_cases hlt : (i : Int) < minI (maxI x2 0) 200
      · have hlt' : (i : Int) < 200 := by rw [minI_d, maxI_d] at hlt; omega
        have ei : addI .i64 (i : Int) 1 = ((i + 1 : Nat) : Int) := by rw [addI_n (by omega) (by omega)]; omega
        rw [ltI_t hlt, cond_true]
        by_cases hn0 : n = 0
        · subst hn0
          obtain ⟨s', c1⟩ := choose_nil (s := DrrSched.mk mo f l a g)
          have e : headsI 0 m = [] := rfl
          rw [e, c1]
          simp only [bind_so]
          rw [ltI_f (by decide)]
          have : neB false false = false := rfl
          rw [this]
          simp only [cond_false, notB_t', cond_true]
          exact ⟨tu, _, rfl, hcy, hk, by omega⟩
        · have hnpos : 0 < n := by omega
          have hga : 0 ≤ a ∧ a < n := by
            rcases hc with ⟨_, _, h, _⟩ | ⟨_, _, _, h, h', _⟩ <;> omega
          obtain ⟨k, s', lf', c1, c2, c3, c4, c5, c6⟩ := stepN hr (n := n) ⟨by omega, by omega⟩ hnpos (by omega) (fun k h0 h1 => by
            obtain ⟨b1, b2⟩ := hsh k h0 h1
            obtain ⟨b3, b4⟩ := hlf k h0 h1
            exact ⟨by omega, by omega, by omega, by omega, by omega⟩) hga
          have hb : ∀ x : Int, 0 ≤ x → x < n → 0 ≤ lf' x ∧ lf' x ≤ 320 * (i : Int) + 319 := fun x h0 h1 => by
            obtain ⟨b1, b2⟩ := hsh x h0 h1
            obtain ⟨b3, b4⟩ := hlf x h0 h1
            rcases c4 x h0 h1 with h | h <;> omega
          obtain ⟨s'', t1, t2⟩ := take_ok c2 (n := m) (by omega) c5 (by have := (hb k c3.1 c3.2).2; omega)
          rw [c1]
          simp only [bind_so]
          rw [ltI_t (by omega)]
          have : neB true true = false := rfl
          rw [this]
          simp only [cond_false, notB_f', t1, bind_so]
          have hlf2 : ∀ x : Int, 0 ≤ x → x < n → 0 ≤ setF lf' k (lf' k - m) x ∧ setF lf' k (lf' k - m) x ≤ 320 * ((i + 1 : Nat) : Int) := fun x h0 h1 => by
            have hbx := hb x h0 h1
            by_cases hxk : x = k
            · subst hxk; simp only [setF, if_true]; omega
            · simp only [setF, if_neg hxk]; omega
          have hsr : SR (DrrSched.mk s''.fMost s''.fShare s''.fLeft s''.fAt s''.fGranted) m sh (setF lf' k (lf' k - m)) s''.fAt s''.fGranted := ⟨t2.mo, t2.sh, t2.lf, rfl, rfl⟩
          by_cases hkl : k = last
          · rw [neI_f hkl, cond_false]
            refine ⟨⟨i + 1, _, by omega, ei, hsr, hlf2, by simp only; omega, hcy, hk, .inr ?_⟩, by simp only; rw [ei]; omega⟩
            rcases hc with ⟨_, h, _, _⟩ | ⟨_, h2, h3, h4, h5, h6⟩
            · omega
            · refine ⟨hnpos, h2, ?_, ?_, ?_, t2.gr⟩
              · simp only; rw [hkl]; exact h3
              · simp only; rw [t2.at_]
              · simp only; exact c3
          · rw [neI_t hkl, cond_true]
            have htl' : lenL tu ≤ 200 := by unfold lenL; omega
            have := lenL_nn tu
            rw [need_t (show AppB _ 1 8 from ⟨by omega, by omega⟩)]
            refine ⟨⟨i + 1, _, by omega, ei, hsr, hlf2, ?_, ?_, ?_, .inr ⟨hnpos, ?_, ?_, ?_, c3, t2.gr⟩⟩, by simp only; rw [ei]; omega⟩
            · simp only [appL, List.length_append, List.length_cons, List.length_nil]; omega
            · refine Cyc.push (a := last) hcy (fun h => ?_) fun h => ?_
              · rcases hc with ⟨h', _⟩ | ⟨_, _, h', _⟩
                · rw [h'] at h; simp at h
                · exact h' h
              · rcases hc with ⟨h', _⟩ | ⟨_, _, _, h4, _⟩
                · rw [h'] at h; simp at h
                · rcases c6 with h | ⟨_, h⟩
                  · exact absurd (h.trans h4.symm) hkl
                  · rw [h4]; exact h
            · intro q hq
              rcases List.mem_append.1 hq with hq | hq
              · exact hk q hq
              · rw [List.mem_singleton.1 hq]; exact c3
            · simp [appL]
            · intro h
              simp [appL]
            · simp only; rw [t2.at_]
      · rw [ltI_f hlt, cond_false]
        exact ⟨tu, _, rfl, hcy, hk, by omega⟩)
    (0, -1, [], f4, l4, o4, a4, g4) ⟨0, _, by omega, rfl, ⟨hr4.mo, hr4.sh, hr4.lf, rfl, rfl⟩, fun k _ _ => ⟨by decide, by simp⟩, by simp, (fun i h => by simp at h), (fun k hk => by simp at hk), .inl ⟨rfl, rfl, hr4.at_, hr4.gr⟩⟩
  -- they go round
  obtain ⟨t6, ht6, rfl⟩ := loop_ends (body := gLaw19DrrWaits.loop6 x1 (turns, w5))
    (fun p => ∃ i : Nat, i ≤ turns.length ∧ p = (i : Int)) (fun t => t = .go ()) (fun p => ((turns.length : Int) - p).toNat) (by
      rintro p ⟨i, hi, rfl⟩
      unfold gLaw19DrrWaits.loop6
      simp only
      rw [en]
      by_cases hlt : i < turns.length
      · rw [ltI_t (by unfold lenL; omega), cond_true, need_t (show InB _ _ from ⟨by omega, by unfold lenL; omega⟩)]
        have ei : addI .i64 (i : Int) 1 = ((i + 1 : Nat) : Int) := by rw [addI_n (by omega) (by omega)]; omega
        have hgo : RoundP (fun p => ∃ i : Nat, i ≤ turns.length ∧ p = (i : Int)) (fun t => t = .go ()) (fun p => ((turns.length : Int) - p).toNat) (i : Int) (some (.go (addI .i64 (i : Int) 1)) : Option (Fl Int (Fl Unit Bool))) := by
          rw [ei]
          exact ⟨⟨i + 1, by omega, rfl⟩, by simp only; omega⟩
        by_cases hi0 : i = 0
        · subst hi0
          rw [ltI_f (by decide), need_t (show Under false true _ from fun h => by cases h), need_t (show Under false true _ from fun h => by cases h)]
          exact hgo
        · have hsub : subI .i64 (i : Int) 1 = ((i - 1 : Nat) : Int) := by rw [subI_n (by omega) (by omega)]; omega
          have h1 : turns[i] = (turns[i - 1] + 1) % n := by
            have := hcy (i - 1) (by omega)
            simpa only [show i - 1 + 1 = i from by omega] using this
          have hb := hz turns[i - 1] (List.getElem_mem (by omega))
          have hrem : remI (addI .i64 (nthI turns (subI .i64 (i : Int) 1)) 1) (n : Int) = turns[i] := by
            rw [hsub, nthI_get (by omega), addI_n (by omega) (by omega), h1]
            unfold remI
            rw [Int.tmod_eq_emod_of_nonneg (by omega)]
          rw [ltI_t (by omega), hsub, need_t (show Under true true (InB _ _) from fun _ => ⟨by omega, by unfold lenL; omega⟩), need_t (show Under true true (NonZ _) from fun _ => by unfold NonZ; omega), ← hsub, hrem, nthI_get hlt, neI_f rfl]
          exact hgo
      · rw [ltI_f (by unfold lenL; omega), cond_false]
        rfl)
    0 ⟨0, by omega, rfl⟩
  rw [e0]
  simp only [bind_so, optC_some, awake_ok]
  rw [neI_f rfl]
  simp only [notB_f', pickB, cond_false, ht4, bind_so, flC_go, ht5, ht6]
end Go.Proofs
