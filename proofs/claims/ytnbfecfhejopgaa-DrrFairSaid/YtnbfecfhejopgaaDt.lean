/- Deficit round robin with one or two flows; that the document's answers hold. No condition. -/
import Derived.Test.YtnbfecfhejopgaaDs
import Derived.Test.YtnbfecfhejopgaaDaD
namespace Go.Proofs
open Go.Ab

theorem after12 : ∀ x : Int, (x = 0 ∨ x ∈ [1, 2]) → gDrrAfter [1, 2] x = some (if x = 1 then 2 else 1) ∧ (if x = 1 then 2 else 1) ∈ ([1, 2] : List Int) := by
  intro x hx
  have hp : ([1, 2] : List Int).Pairwise (· < ·) := by decide
  have hcases : x = 0 ∨ x = 1 ∨ x = 2 := by
    rcases hx with h | h
    · exact .inl h
    · simpa using Or.inr h
  have key : ∀ c : Nat, c ≤ 2 → (∀ q : Nat, q < 2 → (q < c → ((q : Int) + 1 ≤ x)) ∧ (c ≤ q → x < (q : Int) + 1)) → gDrrAfter [1, 2] x = some (nthI [1, 2] ((c % 2 : Nat) : Int)) := fun c hc h =>
    after_ok (l := [1, 2]) hp (by decide) (by decide) c hc
      (fun q hq hqc => by
        have := (h q hq).1 hqc
        match q, hq with
        | 0, _ => simpa using this
        | 1, _ => simpa using this)
      (fun q hq hqc => by
        have := (h q hq).2 hqc
        match q, hq with
        | 0, _ => simpa using this
        | 1, _ => simpa using this)
  rcases hcases with rfl | rfl | rfl
  · exact ⟨key 0 (by decide) (fun q _ => ⟨fun h => by omega, fun _ => by omega⟩), by decide⟩
  · exact ⟨key 1 (by decide) (fun q _ => ⟨fun h => by omega, fun _ => by omega⟩), by decide⟩
  · exact ⟨key 2 (by decide) (fun q _ => ⟨fun h => by omega, fun _ => by omega⟩), by decide⟩

theorem after1 : ∀ x : Int, (x = 0 ∨ x ∈ [1]) → gDrrAfter [1] x = some 1 ∧ (1 : Int) ∈ ([1] : List Int) := by
  intro x hx
  have hp : ([1] : List Int).Pairwise (· < ·) := by decide
  have hcases : x = 0 ∨ x = 1 := by
    rcases hx with h | h
    · exact .inl h
    · simpa using Or.inr h
  have key : ∀ c : Nat, c ≤ 1 → (0 < c → 1 ≤ x) → (c = 0 → x < 1) → gDrrAfter [1] x = some (nthI [1] ((c % 1 : Nat) : Int)) := fun c hc h1 h2 =>
    after_ok (l := [1]) hp (by decide) (by decide) c hc
      (fun q hq hqc => by
        match q, hq with
        | 0, _ => simpa using h1 hqc)
      (fun q hq hqc => by
        match q, hq with
        | 0, _ => simpa using h2 (by omega))
  rcases hcases with rfl | rfl
  · exact ⟨key 0 (by decide) (fun h => by omega) (fun _ => by omega), by decide⟩
  · exact ⟨key 1 (by decide) (fun h => by omega) (fun h => by omega), by decide⟩

/-- Two flows whose heads have one size. -/
theorem step2 {s : DrrSched} {mo : Int} {sh lf : Int → Int} {a sz : Int} {gr : Bool} (hr : SR s mo sh lf a gr) (hmo : mo ≤ 1000000000) (h1 : mo ≤ sh 1 ∧ sh 1 ≤ 1000000000 ∧ 0 ≤ lf 1 ∧ lf 1 ≤ 1000000000 ∧ 0 < sh 1)
    (h2 : mo ≤ sh 2 ∧ sh 2 ≤ 1000000000 ∧ 0 ≤ lf 2 ∧ lf 2 ≤ 1000000000 ∧ 0 < sh 2) (hz : 0 ≤ sz ∧ sz ≤ mo) (ha : (a = 0 ∧ gr = false) ∨ ((a = 1 ∨ a = 2) ∧ gr = true)) :
    ∃ k s' lf', gDrrSchedChoose s [⟨1, sz⟩, ⟨2, sz⟩] = some (k, true, s') ∧ SR s' mo sh lf' k true ∧
      ((a = 0 ∧ k = 1 ∧ lf' 1 = lf 1 + sh 1 ∧ lf' 2 = lf 2) ∨ (a = 1 ∧ sz ≤ lf 1 ∧ k = 1 ∧ lf' 1 = lf 1 ∧ lf' 2 = lf 2) ∨ (a = 1 ∧ ¬ sz ≤ lf 1 ∧ k = 2 ∧ lf' 1 = lf 1 ∧ lf' 2 = lf 2 + sh 2) ∨
        (a = 2 ∧ sz ≤ lf 2 ∧ k = 2 ∧ lf' 1 = lf 1 ∧ lf' 2 = lf 2) ∨ (a = 2 ∧ ¬ sz ≤ lf 2 ∧ k = 1 ∧ lf' 1 = lf 1 + sh 1 ∧ lf' 2 = lf 2)) := by
  have hc := choose_ok hr (l := [⟨1, sz⟩, ⟨2, sz⟩]) hmo (by simp) (fun h hh => by
      simp only [List.mem_cons, List.not_mem_nil, or_false] at hh
      rcases hh with rfl | rfl
      · exact ⟨h1.1, h1.2.1, h1.2.2.1, h1.2.2.2.1, h1.2.2.2.2, hz.1, hz.2⟩
      · exact ⟨h2.1, h2.2.1, h2.2.2.1, h2.2.2.2.1, h2.2.2.2.2, hz.1, hz.2⟩) (by simp) (by simp)
    (fun h hh => by
      simp only [List.mem_cons, List.not_mem_nil, or_false] at hh
      rcases hh with rfl | rfl <;> simp)
    (fun x => if x = 1 then 2 else 1) (fun x hx => after12 x (by
      rcases hx with rfl | hx
      · rcases ha with ⟨h, _⟩ | ⟨h, _⟩
        · exact .inl h
        · exact .inr (by rcases h with h | h <;> simp [h])
      · exact .inr hx))
  simp only [List.map_cons, List.map_nil] at hc
  obtain ⟨z, s', hz', hq⟩ := hc
  have hzz : z = sz := by
    simp only [List.mem_cons, List.not_mem_nil, or_false, Antiphonref19Head.mk.injEq] at hz'
    rcases hz' with h | h <;> exact h.2
  subst hzz
  rcases ha with ⟨rfl, rfl⟩ | ⟨rfl | rfl, rfl⟩
  · rcases hq with ⟨_, q2, q3⟩ | ⟨q1, _⟩
    · exact ⟨_, s', _, q2, q3, .inl ⟨rfl, rfl, by simp [setF], by simp [setF]⟩⟩
    · simp at q1
  · rcases hq with ⟨q1, q2, q3⟩ | ⟨_, q1, q2, q3⟩
    · exact ⟨_, s', _, q2, q3, .inr (.inl ⟨rfl, by simpa using q1, rfl, by simp, by simp⟩)⟩
    · exact ⟨_, s', _, q2, q3, .inr (.inr (.inl ⟨rfl, by simpa using q1, rfl, by simp [setF], by simp [setF]⟩))⟩
  · rcases hq with ⟨q1, q2, q3⟩ | ⟨_, q1, q2, q3⟩
    · exact ⟨_, s', _, q2, q3, .inr (.inr (.inr (.inl ⟨rfl, by simpa using q1, rfl, by simp, by simp⟩)))⟩
    · exact ⟨_, s', _, q2, q3, .inr (.inr (.inr (.inr ⟨rfl, by simpa using q1, rfl, by simp [setF], by simp [setF]⟩)))⟩

/-- One flow. -/
theorem step1 {s : DrrSched} {mo : Int} {sh lf : Int → Int} {a sz : Int} {gr : Bool} (hr : SR s mo sh lf a gr) (hmo : mo ≤ 1000000000) (h1 : mo ≤ sh 1 ∧ sh 1 ≤ 1000000000 ∧ 0 ≤ lf 1 ∧ lf 1 ≤ 1000000000 ∧ 0 < sh 1)
    (hz : 0 ≤ sz ∧ sz ≤ mo) (ha : (a = 0 ∧ gr = false) ∨ (a = 1 ∧ gr = true)) :
    ∃ s' lf', gDrrSchedChoose s [⟨1, sz⟩] = some (1, true, s') ∧ SR s' mo sh lf' 1 true ∧ lf' 2 = 0 ∧
      ((a = 0 ∧ lf' 1 = lf 1 + sh 1) ∨ (a = 1 ∧ sz ≤ lf 1 ∧ lf' 1 = lf 1) ∨ (a = 1 ∧ ¬ sz ≤ lf 1 ∧ lf' 1 = lf 1 + sh 1)) := by
  have hc := choose_ok hr (l := [⟨1, sz⟩]) hmo (by simp) (fun h hh => by
      simp only [List.mem_cons, List.not_mem_nil, or_false] at hh
      subst hh
      exact ⟨h1.1, h1.2.1, h1.2.2.1, h1.2.2.2.1, h1.2.2.2.2, hz.1, hz.2⟩) (by simp) (by simp)
    (fun h hh => by
      simp only [List.mem_cons, List.not_mem_nil, or_false] at hh
      subst hh; simp)
    (fun x => 1) (fun x hx => after1 x (by
      rcases hx with rfl | hx
      · rcases ha with ⟨h, _⟩ | ⟨h, _⟩
        · exact .inl h
        · exact .inr (by simp [h])
      · exact .inr hx))
  simp only [List.map_cons, List.map_nil] at hc
  obtain ⟨z, s', hz', hq⟩ := hc
  have hzz : z = sz := by
    simp only [List.mem_cons, List.not_mem_nil, or_false, Antiphonref19Head.mk.injEq] at hz'
    exact hz'.2
  subst hzz
  rcases ha with ⟨rfl, rfl⟩ | ⟨rfl, rfl⟩
  · rcases hq with ⟨_, q2, q3⟩ | ⟨q1, _⟩
    · exact ⟨s', _, q2, q3, by simp [setF], .inl ⟨rfl, by simp [setF]⟩⟩
    · simp at q1
  · rcases hq with ⟨q1, q2, q3⟩ | ⟨_, q1, q2, q3⟩
    · exact ⟨s', _, q2, q3, by simp, .inr (.inl ⟨rfl, by simpa using q1, by simp⟩)⟩
    · exact ⟨s', _, q2, q3, by simp [setF], .inr (.inr ⟨rfl, by simpa using q1, by simp [setF]⟩)⟩

theorem SR.mk' {s : DrrSched} {mo : Int} {sh lf : Int → Int} {a : Int} {g : Bool} (h : SR s mo sh lf a g) : SR (DrrSched.mk s.fMost s.fShare s.fLeft s.fAt s.fGranted) mo sh lf a g := h

/-- The document's answers. -/
theorem awake_ok : gLaw19Awake = some true := by
  obtain ⟨s0, e0, r0⟩ := new_ok (mo := 10) (by decide) (by decide)
  obtain ⟨s1, e1, r1⟩ := add_ok r0 (id := 1) (q := 10) (by decide) (by decide) (by decide)
  obtain ⟨s2, e2, r2⟩ := add_ok r1 (id := 2) (q := 20) (by decide) (by decide) (by decide)
  obtain ⟨t, ht, v, rfl⟩ := loop_ends (body := gLaw19Awake.loop1)
    (fun q => ∃ (i : Nat) (a : Int) (gr : Bool) (lf : Int → Int), q.1 = (i : Int) ∧ SR (DrrSched.mk q.2.2.2.1 q.2.1 q.2.2.1 q.2.2.2.2.1 q.2.2.2.2.2) 10 (setF (setF (fun _ => 0) 1 10) 2 20) lf a gr ∧ lf 1 = 0 ∧
      ((i = 0 ∧ a = 0 ∧ gr = false ∧ lf 2 = 0) ∨ ((i = 1 ∨ i = 4) ∧ a = 1 ∧ gr = true ∧ lf 2 = 0) ∨ ((i = 2 ∨ i = 5) ∧ a = 2 ∧ gr = true ∧ lf 2 = 10) ∨ ((i = 3 ∨ i = 6) ∧ a = 2 ∧ gr = true ∧ lf 2 = 0)))
    (fun t => ∃ v, t = .go v) (fun q => (6 - q.1).toNat) (by
      rintro ⟨n, shm, lfm, mo, at', g⟩ ⟨i, a, gr, lf, rfl, hr, hl1, hc⟩
      simp only at hr
      unfold gLaw19Awake.loop1
      simp only
      have hsh1 : setF (setF (fun _ => 0) 1 10) 2 20 1 = 10 := by simp [setF]
      have hsh2 : setF (setF (fun _ => 0) 1 10) 2 20 2 = 20 := by simp [setF]
      by_cases hi : i < 6
      · obtain ⟨k, s', lf', q1, q2, q3⟩ := step2 hr (sz := 10) (by decide) (by rw [hsh1, hl1]; decide)
          (by rw [hsh2]; rcases hc with ⟨_, _, _, h⟩ | ⟨_, _, _, h⟩ | ⟨_, _, _, h⟩ | ⟨_, _, _, h⟩ <;> rw [h] <;> decide) (by decide)
          (by rcases hc with ⟨_, h, h', _⟩ | ⟨_, h, h', _⟩ | ⟨_, h, h', _⟩ | ⟨_, h, h', _⟩ <;> simp [h, h'])
        have hw : nthI [1, 2, 2, 1, 2, 2] (i : Int) = k ∧ 10 ≤ lf' k ∧ lf' k ≤ 20 ∧ ((i = 0 ∧ lf' 1 = 10 ∧ lf' 2 = 0 ∧ k = 1) ∨ ((i = 1 ∨ i = 4) ∧ lf' 1 = 0 ∧ lf' 2 = 20 ∧ k = 2) ∨ ((i = 2 ∨ i = 5) ∧ lf' 1 = 0 ∧ lf' 2 = 10 ∧ k = 2) ∨ (i = 3 ∧ lf' 1 = 10 ∧ lf' 2 = 0 ∧ k = 1)) := by
          rw [hsh1, hsh2, hl1] at q3
          rcases hc with ⟨rfl, rfl, _, h2⟩ | ⟨hi1, rfl, _, h2⟩ | ⟨hi1, rfl, _, h2⟩ | ⟨hi1, rfl, _, h2⟩ <;> rw [h2] at q3
          · rcases q3 with ⟨_, rfl, a1, a2⟩ | ⟨h, _⟩ | ⟨h, _⟩ | ⟨h, _⟩ | ⟨h, _⟩
            · exact ⟨rfl, by omega, by omega, .inl ⟨rfl, by omega, a2, rfl⟩⟩
            all_goals exact absurd h (by decide)
          · rcases q3 with ⟨h, _⟩ | ⟨_, h, _⟩ | ⟨_, _, rfl, a1, a2⟩ | ⟨h, _⟩ | ⟨h, _⟩
            · exact absurd h (by decide)
            · omega
            · refine ⟨?_, by omega, by omega, .inr (.inl ⟨hi1, a1, by omega, rfl⟩)⟩
              rcases hi1 with rfl | rfl <;> rfl
            all_goals exact absurd h (by decide)
          · rcases q3 with ⟨h, _⟩ | ⟨h, _⟩ | ⟨h, _⟩ | ⟨_, _, rfl, a1, a2⟩ | ⟨_, h, _⟩
            · exact absurd h (by decide)
            · exact absurd h (by decide)
            · exact absurd h (by decide)
            · refine ⟨?_, by omega, by omega, .inr (.inr (.inl ⟨hi1, a1, a2, rfl⟩))⟩
              rcases hi1 with rfl | rfl <;> rfl
            · omega
          · have hi3 : i = 3 := by omega
            subst hi3
            rcases q3 with ⟨h, _⟩ | ⟨h, _⟩ | ⟨h, _⟩ | ⟨_, h, _⟩ | ⟨_, _, rfl, a1, a2⟩
            · exact absurd h (by decide)
            · exact absurd h (by decide)
            · exact absurd h (by decide)
            · omega
            · exact ⟨rfl, by omega, by omega, .inr (.inr (.inr ⟨rfl, by omega, a2, rfl⟩))⟩
        obtain ⟨w1, w2, w3, w4⟩ := hw
        obtain ⟨s'', t1, t2⟩ := take_ok q2 (n := 10) (by decide) w2 (by omega)
        rw [ltI_t (by omega), cond_true, need_t (show InB _ _ from ⟨by omega, by omega⟩), q1]
        simp only [bind_so]
        rw [w1, neI_f rfl]
        simp only [notB_f', pickB, cond_false, t1, bind_so]
        refine ⟨⟨i + 1, k, true, setF lf' k (lf' k - 10), by simp only; rw [addI_n (by omega) (by omega)]; omega, t2, ?_, ?_⟩, by simp only; rw [addI_n (by omega) (by omega)]; omega⟩
        · rcases w4 with ⟨_, a1, a2, rfl⟩ | ⟨_, a1, a2, rfl⟩ | ⟨_, a1, a2, rfl⟩ | ⟨_, a1, a2, rfl⟩ <;> simp [setF, a1]
        · rcases w4 with ⟨rfl, a1, a2, rfl⟩ | ⟨hi1, a1, a2, rfl⟩ | ⟨hi1, a1, a2, rfl⟩ | ⟨rfl, a1, a2, rfl⟩
          · exact .inr (.inl ⟨.inl rfl, rfl, rfl, by simp [setF, a2]⟩)
          · exact .inr (.inr (.inl ⟨by omega, rfl, rfl, by simp [setF, a2]⟩))
          · exact .inr (.inr (.inr ⟨by omega, rfl, rfl, by simp [setF, a2]⟩))
          · exact .inr (.inl ⟨.inr rfl, rfl, rfl, by simp [setF, a2]⟩)
      · rw [ltI_f (by omega), cond_false]
        exact ⟨_, rfl⟩)
    (0, s2.fShare, s2.fLeft, s2.fMost, s2.fAt, s2.fGranted) ⟨0, 0, false, _, rfl, r2.mk', rfl, .inl ⟨rfl, rfl, rfl, rfl⟩⟩
  unfold gLaw19Awake
  rw [e0]
  simp only [bind_so, optC_some]
  rw [neI_f rfl]
  simp only [pickB, cond_false, e1, bind_so]
  rw [neI_f rfl]
  simp only [cond_false, e2, bind_so]
  rw [neI_f rfl]
  simp only [cond_false, ht, bind_so, flC_go]
end Go.Proofs
