/- Fair by the shares: that the statement holds of what is computed. No condition. -/
import Derived.Test.YtnbfecfhejopgaaDt
import Derived.Test.YtnbfecfhejopgaaNu
import Derived.Test.YtnbfecfhejopgaaDfD
namespace Go.Proofs
open Go.Ab

theorem most_of (x : Int) : addI .i64 1 (bitsOp .and .i64 x 63) = 1 + x % 64 ∧ 1 ≤ 1 + x % 64 ∧ 1 + x % 64 ≤ 64 := by
  have e : bitsOp .and .i64 x 63 = x % 64 := and_mask' (j := 6) (by decide) x 63 (by decide)
  rw [e, addI_n (by omega) (by omega)]
  omega
theorem share_of (m x : Int) (h0 : 1 ≤ m) (h1 : m ≤ 64) : addI .i64 m (bitsOp .and .i64 x 255) = m + x % 256 ∧ m ≤ m + x % 256 ∧ m + x % 256 ≤ m + 255 := by
  have e : bitsOp .and .i64 x 255 = x % 256 := and_mask' (j := 8) (by decide) x 255 (by decide)
  rw [e, addI_n (by omega) (by omega)]
  omega
def rangeI (n : Nat) : List Int := (List.range n).map fun (k : Nat) => (k : Int)
theorem rangeI_len (n : Nat) : (rangeI n).length = n := by simp [rangeI]
theorem rangeI_get {n q : Nat} (h : q < (rangeI n).length) : (rangeI n)[q] = (q : Int) := by simp [rangeI]
theorem rangeI_mem {n : Nat} {x : Int} : x ∈ rangeI n ↔ 0 ≤ x ∧ x < n := by
  unfold rangeI
  rw [List.mem_map]
  constructor
  · rintro ⟨k, hk, rfl⟩
    have := List.mem_range.1 hk
    omega
  · rintro ⟨h0, h1⟩
    exact ⟨x.toNat, List.mem_range.2 (by omega), by omega⟩
theorem rangeI_up (n : Nat) : (rangeI n).Pairwise (· < ·) := by
  rw [List.pairwise_iff_getElem]
  intro i j hi hj hij
  rw [rangeI_get, rangeI_get]; omega
theorem afterN {n : Nat} (hn : 0 < n) (hn2 : n ≤ 1000000) {x : Int} (hx : 0 ≤ x ∧ x < n) : gDrrAfter (rangeI n) x = some ((x + 1) % n) := by
  have h := after_ok (l := rangeI n) (rangeI_up n) (by rw [rangeI_len]; exact hn) (by rw [rangeI_len]; omega) (x := x) (x.toNat + 1) (by rw [rangeI_len]; omega)
    (fun q hq hqc => by rw [rangeI_get]; omega) (fun q hq hqc => by rw [rangeI_get]; omega)
  rw [h, rangeI_len]
  have hlt := Nat.mod_lt (x.toNat + 1) hn
  rw [nthI_get (by rw [rangeI_len]; exact hlt), rangeI_get]
  congr 1
  have : x + 1 = ((x.toNat + 1 : Nat) : Int) := by omega
  rw [this]; omega

/-- n flows and the sizes of their heads. -/
def headsF (sz : Int → Int) (n : Nat) : List Hd := (List.range n).map fun (k : Nat) => ⟨(k : Int), sz k⟩
theorem headsF_ids (sz : Int → Int) (n : Nat) : (headsF sz n).map (·.fId) = rangeI n := by simp [headsF, rangeI, Function.comp_def]
theorem headsF_len (sz : Int → Int) (n : Nat) : (headsF sz n).length = n := by simp [headsF]
theorem headsF_succ (sz : Int → Int) (n : Nat) : headsF sz (n + 1) = headsF sz n ++ [⟨(n : Int), sz n⟩] := by simp [headsF, List.range_succ]
theorem headsF_mem {sz : Int → Int} {n : Nat} {h : Hd} (hh : h ∈ headsF sz n) : 0 ≤ h.fId ∧ h.fId < n ∧ h.fSize = sz h.fId := by
  obtain ⟨k, hk, rfl⟩ := List.mem_map.1 hh
  have := List.mem_range.1 hk
  exact ⟨by simp only; omega, by simp only; omega, rfl⟩
theorem headsF_get {sz : Int → Int} {n : Nat} {k : Int} (h0 : 0 ≤ k) (h1 : k < n) : nthI (headsF sz n) k = ⟨k, sz k⟩ := by
  have hk : k.toNat < n := by omega
  have e : ((k.toNat : Nat) : Int) = k := by omega
  simp [nthI, headsF, List.getD, hk, e]

/-- What each flow has sent, what it may send, and how often it had its turn. -/
structure Fair (n : Nat) (m : Int) (sh : Int → Int) (a : Int) (gr : Bool) (lf sent : Int → Int) : Prop where
  ha : 0 ≤ a ∧ a < n
  r : ∃ r c : Int, c = (if gr = true then a + 1 else a) ∧ ∀ k : Int, 0 ≤ k → k < n → sent k + lf k = (if k < c then r + 1 else r) * sh k
  nn : ∀ k : Int, 0 ≤ k → k < n → 0 ≤ lf k
  lo : ∀ k : Int, 0 ≤ k → k < n → (k ≠ a ∨ gr = false) → lf k ≤ m
  hi : lf a ≤ sh a + m

theorem core {p q g1 g2 l1 l2 s1 s2 : Int} (h1 : s1 + l1 = g1 * p) (h2 : s2 + l2 = g2 * q) : s1 * q - s2 * p = (g1 - g2) * (p * q) - l1 * q + l2 * p := by
  have e1 : s1 = g1 * p - l1 := by omega
  have e2 : s2 = g2 * q - l2 := by omega
  have e3 : g2 * q * p = g2 * (p * q) := by rw [Int.mul_assoc, Int.mul_comm q p]
  rw [e1, e2, Int.sub_mul, Int.sub_mul, Int.sub_mul, e3, Int.mul_assoc g1 p q]
  omega

/-- What two of them sent, by their shares. -/
def Near (m p q d : Int) : Prop := -(m * q) ≤ d ∧ d ≤ p * q + m * p
theorem Fair.near {n : Nat} {m a : Int} {gr : Bool} {sh lf sent : Int → Int} (h : Fair n m sh a gr lf sent) (hsh : ∀ k : Int, 0 ≤ k → k < n → 0 ≤ sh k) {k1 k2 : Int} (h0 : 0 ≤ k1) (h12 : k1 < k2) (h2 : k2 < n) :
    Near m (sh k1) (sh k2) (sent k1 * sh k2 - sent k2 * sh k1) := by
  obtain ⟨r, t, ht, hr⟩ := h.r
  have r1 := hr k1 h0 (by omega)
  have r2 := hr k2 (by omega) h2
  have p0 := hsh k1 h0 (by omega)
  have q0 := hsh k2 (by omega) h2
  have n1 := h.nn k1 h0 (by omega)
  have n2 := h.nn k2 (by omega) h2
  have l1 := h.lo k1 h0 (by omega)
  have l2 := h.lo k2 (by omega) h2
  have hi := h.hi
  have c := core r1 r2
  generalize hp : sh k1 = p at *
  generalize hq : sh k2 = q at *
  generalize hx : lf k1 = x at *
  generalize hy : lf k2 = y at *
  have x0 : 0 ≤ x * q := Int.mul_nonneg n1 q0
  have y0 : 0 ≤ y * p := Int.mul_nonneg n2 p0
  have xm : x ≤ m → x * q ≤ m * q := fun h => Int.mul_le_mul_of_nonneg_right h q0
  have ym : y ≤ m → y * p ≤ m * p := fun h => Int.mul_le_mul_of_nonneg_right h p0
  have xh : x ≤ p + m → x * q ≤ p * q + m * q := fun h => by
    have := Int.mul_le_mul_of_nonneg_right h q0
    rw [Int.add_mul] at this; exact this
  have yh : y ≤ q + m → y * p ≤ p * q + m * p := fun h => by
    have := Int.mul_le_mul_of_nonneg_right h p0
    rw [Int.add_mul, Int.mul_comm q p] at this; exact this
  have pq0 : 0 ≤ p * q := Int.mul_nonneg p0 q0
  have one : (r + 1 - r) * (p * q) = p * q := by rw [show r + 1 - r = 1 by omega, Int.one_mul]
  have zero : ∀ z : Int, (z - z) * (p * q) = 0 := fun z => by rw [show z - z = 0 by omega, Int.zero_mul]
  unfold Near
  have tt : t = a ∨ t = a + 1 := by split at ht <;> omega
  by_cases e1 : k1 = a
  · subst e1
    rw [hp, hx] at hi
    have y1 := ym (l2 (.inl (by omega)))
    have x1 := xh hi
    rw [if_neg (show ¬ k2 < t by omega)] at c
    by_cases e3 : k1 < t
    · rw [if_pos e3, one] at c
      omega
    · have x2 := xm (l1 (.inr (by
        cases gr with
        | true => rw [if_pos rfl] at ht; omega
        | false => rfl)))
      rw [if_neg e3, zero] at c
      omega
  · have x1 := xm (l1 (.inl e1))
    by_cases e2 : k2 = a
    · subst e2
      rw [hq, hy] at hi
      have y1 := yh hi
      rw [if_pos (show k1 < t by omega)] at c
      by_cases e3 : k2 < t
      · rw [if_pos e3, zero] at c
        omega
      · have y2 := ym (l2 (.inr (by
          cases gr with
          | true => rw [if_pos rfl] at ht; omega
          | false => rfl)))
        rw [if_neg e3, one] at c
        omega
    · have y1 := ym (l2 (.inl e2))
      by_cases e3 : k1 < t
      · rw [if_pos e3] at c
        by_cases e4 : k2 < t
        · rw [if_pos e4, zero] at c
          omega
        · rw [if_neg e4, one] at c
          omega
      · rw [if_neg e3, if_neg (show ¬ k2 < t by omega), zero] at c
        omega

/-- A turn. -/
theorem stepF {s : DrrSched} {m : Int} {sh lf sent sz : Int → Int} {a : Int} {gr : Bool} {n : Nat} (hr : SR s m sh lf a gr) (hF : Fair n m sh a gr lf sent) (hm : 1 ≤ m ∧ m ≤ 64) (hn2 : n ≤ 1000)
    (hs : ∀ k : Int, 0 ≤ k → k < n → m ≤ sh k ∧ sh k ≤ 1000) (hz : ∀ k : Int, 0 ≤ k → k < n → 1 ≤ sz k ∧ sz k ≤ m) :
    ∃ k s' s'' lf', gDrrSchedChoose s (headsF sz n) = some (k, true, s') ∧ (0 ≤ k ∧ k < n) ∧ gDrrSchedTake s' (sz k) = some s'' ∧ SR s'' m sh lf' k true ∧ Fair n m sh k true lf' (setF sent k (sent k + sz k)) := by
  obtain ⟨ha, ⟨r, t, ht, hrr⟩, hnn, hlo, hhi⟩ := hF
  have hn : 0 < n := by omega
  have hbd : ∀ k : Int, 0 ≤ k → k < n → 0 ≤ lf k ∧ lf k ≤ 2000 := fun k h0 h1 => by
    refine ⟨hnn k h0 h1, ?_⟩
    by_cases hk : k = a
    · subst hk; have := (hs k h0 h1).2; omega
    · have := hlo k h0 h1 (.inl hk); omega
  have hmod : ∀ x : Int, 0 ≤ (x + 1) % n ∧ (x + 1) % n < n := fun x => ⟨Int.emod_nonneg _ (by omega), Int.emod_lt_of_pos _ (by omega)⟩
  have hc := choose_ok hr (l := headsF sz n) (by omega) (by rw [headsF_len]; omega) (fun h hh => by
      obtain ⟨h1, h2, h3⟩ := headsF_mem hh
      obtain ⟨q1, q2⟩ := hs _ h1 h2
      obtain ⟨q3, q4⟩ := hbd _ h1 h2
      obtain ⟨q5, q6⟩ := hz _ h1 h2
      exact ⟨q1, by omega, q3, by omega, by omega, by omega, by omega⟩) (by rw [headsF_ids]; exact rangeI_up n) (by
        intro h
        have := congrArg List.length h
        rw [headsF_len] at this
        simp at this
        omega)
    (fun h hh => by
      obtain ⟨h1, h2, h3⟩ := headsF_mem hh
      omega)
    (fun x => (x + 1) % n) (fun x hx => by
      rw [headsF_ids] at hx ⊢
      have hx' : 0 ≤ x ∧ x < n := by
        rcases hx with rfl | hx
        · exact ha
        · exact rangeI_mem.1 hx
      exact ⟨afterN hn (by omega) hx', rangeI_mem.2 (hmod x)⟩)
  rw [headsF_ids] at hc
  have ham : a ∈ rangeI n := rangeI_mem.2 ha
  simp only [if_pos ham] at hc
  obtain ⟨z, s', hzm, hq⟩ := hc
  have hzz : z = sz a := (headsF_mem hzm).2.2
  subst hzz
  obtain ⟨a1, a2⟩ := hs a ha.1 ha.2
  obtain ⟨z1, z2⟩ := hz a ha.1 ha.2
  obtain ⟨b1, b2⟩ := hbd a ha.1 ha.2
  rcases hq with ⟨q1, q2, q3⟩ | ⟨q0, q1, q2, q3⟩
  · -- the same one
    have hlf : ∃ f : Int → Int, f = (if gr = true then (fun x => if x ∈ rangeI n then lf x else 0) else setF (fun x => if x ∈ rangeI n then lf x else 0) a ((fun x => if x ∈ rangeI n then lf x else 0) a + sh a)) := ⟨_, rfl⟩
    obtain ⟨f, hf⟩ := hlf
    simp only [if_pos ham] at hf
    rw [← hf] at q1 q3
    have fa : f a = if gr = true then lf a else lf a + sh a := by
      rw [hf]
      cases gr <;> simp [setF, ham]
    have fx : ∀ x : Int, 0 ≤ x → x < n → x ≠ a → f x = lf x := fun x h0 h1 hx => by
      have : x ∈ rangeI n := rangeI_mem.2 ⟨h0, h1⟩
      rw [hf]
      cases gr <;> simp [setF, this, hx]
    have f1 : 0 ≤ f a ∧ f a ≤ sh a + m := by
      rw [fa]
      split
      · omega
      · rename_i hg
        have := hlo a ha.1 ha.2 (.inr (by simpa using hg))
        omega
    obtain ⟨s'', t1, t2⟩ := take_ok q3 (n := sz a) (by omega) q1 (by omega)
    refine ⟨a, s', s'', _, q2, ha, t1, t2, ha, ⟨r, a + 1, rfl, fun k h0 h1 => ?_⟩, fun k h0 h1 => ?_, fun k h0 h1 hk => ?_, ?_⟩
    · by_cases hk : k = a
      · subst hk
        have := hrr k h0 h1
        simp only [setF, if_true]
        rw [if_pos (by omega), fa]
        cases gr with
        | true =>
          rw [if_pos rfl] at ht
          rw [if_pos (by omega)] at this
          simp only [if_true]; omega
        | false =>
          rw [if_neg (by simp)] at ht
          rw [if_neg (by omega)] at this
          rw [Int.add_mul, Int.one_mul]
          simp only [Bool.false_eq_true, if_false]; omega
      · have := hrr k h0 h1
        simp only [setF, if_neg hk, fx k h0 h1 hk]
        rw [this]
        have e : (k < t) ↔ (k < a + 1) := by split at ht <;> omega
        simp only [e]
    · by_cases hk : k = a
      · subst hk; simp only [setF, if_true]; omega
      · simp only [setF, if_neg hk, fx k h0 h1 hk]; exact hnn k h0 h1
    · have hk : k ≠ a := by
        rcases hk with h | h
        · exact h
        · cases h
      simp only [setF, if_neg hk, fx k h0 h1 hk]
      exact hlo k h0 h1 (.inl hk)
    · simp only [setF, if_true]; omega
  · -- the next one
    subst q0
    have hnx := hmod a
    have hxx : (a + 1) % (n : Int) ∈ rangeI n := rangeI_mem.2 hnx
    simp only [if_true, if_pos ham, if_pos hxx] at q1 q3
    obtain ⟨c1, c2⟩ := hs _ hnx.1 hnx.2
    obtain ⟨d1, d2⟩ := hz _ hnx.1 hnx.2
    have lk : lf ((a + 1) % n) ≤ m := by
      by_cases hk : (a + 1) % (n : Int) = a
      · rw [hk]; omega
      · exact hlo _ hnx.1 hnx.2 (.inl hk)
    have ln := hnn _ hnx.1 hnx.2
    have hcase : ((a + 1) % (n : Int) = a + 1 ∧ a + 1 < n) ∨ ((a + 1) % (n : Int) = 0 ∧ a + 1 = n) := by
      by_cases h : a + 1 < n
      · exact .inl ⟨Int.emod_eq_of_lt (by omega) h, h⟩
      · have : a + 1 = n := by omega
        exact .inr ⟨by rw [this]; exact Int.emod_self, this⟩
    generalize hk0 : (a + 1) % (n : Int) = k0 at *
    obtain ⟨s'', t1, t2⟩ := take_ok q3 (n := sz k0) (by omega) (by simp only [setF, if_true]; omega) (by simp only [setF, if_true]; omega)
    have hothers : ∀ x : Int, 0 ≤ x → x < n → x ≠ k0 → lf x ≤ m := fun x h0 h1 _ => by
      by_cases hx : x = a
      · subst hx; omega
      · exact hlo x h0 h1 (.inl hx)
    refine ⟨k0, s', s'', _, q2, hnx, t1, t2, hnx, ?_, fun k h0 h1 => ?_, fun k h0 h1 hk => ?_, ?_⟩
    · rw [if_pos rfl] at ht
      rcases hcase with ⟨e, hlt⟩ | ⟨e, hlt⟩
      · refine ⟨r, k0 + 1, rfl, fun k h0 h1 => ?_⟩
        have := hrr k h0 h1
        by_cases hk : k = k0
        · subst hk
          rw [if_neg (by omega)] at this
          rw [if_pos (by omega), Int.add_mul, Int.one_mul]
          simp only [setF, if_true]; omega
        · have hm : k ∈ rangeI n := rangeI_mem.2 ⟨h0, h1⟩
          simp only [setF, if_neg hk, if_pos hm]
          rw [this]
          have e : (k < t) ↔ (k < k0 + 1) := by omega
          simp only [e]
      · refine ⟨r + 1, k0 + 1, rfl, fun k h0 h1 => ?_⟩
        have := hrr k h0 h1
        rw [if_pos (by omega)] at this
        by_cases hk : k = k0
        · subst hk
          rw [if_pos (by omega), Int.add_mul (r + 1), Int.one_mul]
          simp only [setF, if_true]; omega
        · have hm : k ∈ rangeI n := rangeI_mem.2 ⟨h0, h1⟩
          simp only [setF, if_neg hk, if_pos hm]
          rw [this, if_neg (by omega)]
    · by_cases hk : k = k0
      · subst hk; simp only [setF, if_true]; omega
      · have hm : k ∈ rangeI n := rangeI_mem.2 ⟨h0, h1⟩
        simp only [setF, if_neg hk, if_pos hm]; exact hnn k h0 h1
    · have hk : k ≠ k0 := by
        rcases hk with h | h
        · exact h
        · cases h
      have hm : k ∈ rangeI n := rangeI_mem.2 ⟨h0, h1⟩
      simp only [setF, if_neg hk, if_pos hm]
      exact hothers k h0 h1 hk
    · simp only [setF, if_true]; omega
end Go.Proofs
