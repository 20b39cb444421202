/- Small letters of small letters; what they leave of a rune's kind: by Go's own table. No condition. -/
import Derived.Test.YtefdnbpigfojcaaDoorM07
import Derived.Test.YtefdnbpigfojcaaDoorM03
import Derived.Lib.CaseU
import Derived.Lib.IsU
namespace Go.Proofs
open Go.Ab Go.Lib

def okV (y : Int) : Bool := decide ((0 ≤ y ∧ y < 55296) ∨ (57344 ≤ y ∧ y ≤ 1114111))
def cl (r : Int) : Nat := if r = 45 ∨ r = 95 ∨ r = 46 then 3 else bif isLetterU r then 1 else bif isDigitU r then 2 else 0
set_option maxRecDepth 1000000 in
theorem table_ok : (caseT.all fun x => (List.range (x.2.1 + 1 - x.1)).all fun k => toLowerU (convertR 1 (x.1 + k : Nat) x) == convertR 1 (x.1 + k : Nat) x && okV (convertR 1 (x.1 + k : Nat) x)) = true := by decide +kernel
set_option maxRecDepth 1000000 in
theorem table_cl : (caseT.all fun x => (List.range (x.2.1 + 1 - x.1)).all fun k => convertR 1 (x.1 + k : Nat) x == ((x.1 + k : Nat) : Int) || cl (x.1 + k : Nat) == 0 || cl (convertR 1 (x.1 + k : Nat) x) == cl (x.1 + k : Nat)) = true := by decide +kernel
theorem ascii_cl : ((List.range 26).all fun k => cl (65 + k : Nat) == cl (97 + k : Nat)) = true := by decide +kernel
theorem clsR_cl (r : Int) : clsR r = (cl r : Int) := by
  unfold clsR cl letterR digitR
  split
  · rfl
  · cases isLetterU r
    · cases isDigitU r <;> rfl
    · rfl

theorem lookup_at (T : Array CaseRow) (r : Int) : ∀ (f lo hi : Nat), hi ≤ T.size → ∀ i, lookupIdx T r f lo hi = some i → i < T.size ∧ ((T.getD i (0, 0, 0, 0, 0)).1 : Int) ≤ r ∧ r ≤ ((T.getD i (0, 0, 0, 0, 0)).2.1 : Int)
  | 0, lo, hi, _, i, h => by simp [lookupIdx] at h
  | f + 1, lo, hi, hh, i, h => by
    rw [lookupIdx] at h
    split at h
    · split at h
      · rename_i h1
        cases h
        exact ⟨by omega, h1⟩
      · split at h
        · exact lookup_at T r f lo _ (by omega) i h
        · exact lookup_at T r f _ hi hh i h
    · cases h

/-- A rune's small one: itself, or by a row of the table. -/
theorem lower_cases (r : Int) : toLowerU r = r ∨ (65 ≤ r ∧ r ≤ 90 ∧ toLowerU r = r + 32) ∨ ∃ x ∈ caseT, ∃ k : Nat, k < x.2.1 + 1 - x.1 ∧ r = ((x.1 + k : Nat) : Int) ∧ toLowerU r = convertR 1 (x.1 + k : Nat) x := by
  by_cases h : r ≤ 127
  · by_cases h2 : 65 ≤ r ∧ r ≤ 90
    · right; left
      exact ⟨h2.1, h2.2, by unfold toLowerU; rw [if_pos h, if_pos h2]⟩
    · left
      unfold toLowerU
      rw [if_pos h, if_neg h2]
  · have e : toLowerU r = toR caseA 1 r := by unfold toLowerU; rw [if_neg h]
    unfold toR at e
    split at e
    · rename_i x hx
      right; right
      unfold lookupGo at hx
      obtain ⟨i, hi, rfl⟩ := Option.map_eq_some_iff.1 hx
      obtain ⟨h1, h2, h3⟩ := lookup_at caseA r _ _ _ (Nat.le_refl _) i hi
      have hl : i < caseT.length := by simpa [caseA] using h1
      have hg : caseA.getD i (0, 0, 0, 0, 0) = caseT[i] := by simp [caseA, Array.getD, hl]
      rw [hg] at e h2 h3
      have er : r = ((caseT[i].1 + (r.toNat - caseT[i].1) : Nat) : Int) := by omega
      refine ⟨caseT[i], List.getElem_mem hl, r.toNat - caseT[i].1, by omega, er, ?_⟩
      rw [← er]; exact e
    · exact .inl e

theorem row_ok {x : CaseRow} (hx : x ∈ caseT) {k : Nat} (hk : k < x.2.1 + 1 - x.1) : toLowerU (convertR 1 (x.1 + k : Nat) x) = convertR 1 (x.1 + k : Nat) x ∧ okV (convertR 1 (x.1 + k : Nat) x) = true := by
  have h := List.all_eq_true.1 (List.all_eq_true.1 table_ok x hx) k (List.mem_range.2 hk)
  simpa using h
theorem row_cl {x : CaseRow} (hx : x ∈ caseT) {k : Nat} (hk : k < x.2.1 + 1 - x.1) : convertR 1 (x.1 + k : Nat) x = ((x.1 + k : Nat) : Int) ∨ cl (x.1 + k : Nat) = 0 ∨ cl (convertR 1 (x.1 + k : Nat) x) = cl (x.1 + k : Nat) := by
  have h := List.all_eq_true.1 (List.all_eq_true.1 table_cl x hx) k (List.mem_range.2 hk)
  simpa [or_assoc] using h

theorem lower_idem (r : Int) : lowerR (lowerR r) = lowerR r := by
  unfold lowerR
  rcases lower_cases r with h | ⟨h1, h2, h3⟩ | ⟨x, hx, k, hk, rfl, h3⟩
  · rw [h, h]
  · rw [h3]
    unfold toLowerU
    rw [if_pos (by omega), if_neg (by omega)]
  · rw [h3]
    exact (row_ok hx hk).1
theorem lower_valid {r : Int} (h : ValidR r) : ValidR (lowerR r) := by
  unfold lowerR
  rcases lower_cases r with e | ⟨h1, h2, e⟩ | ⟨x, hx, k, hk, rfl, e⟩
  · rw [e]; exact h
  · rw [e]; left; omega
  · rw [e]
    have q := (row_ok hx hk).2
    unfold okV at q
    have q2 := of_decide_eq_true q
    exact q2
theorem cls_lower {r : Int} (h : clsR r ≠ 0) : clsR (lowerR r) = clsR r := by
  unfold lowerR
  rw [clsR_cl] at h
  rw [clsR_cl, clsR_cl]
  rcases lower_cases r with e | ⟨h1, h2, e⟩ | ⟨x, hx, k, hk, rfl, e⟩
  · rw [e]
  · rw [e]
    have := List.all_eq_true.1 ascii_cl (r - 65).toNat (List.mem_range.2 (by omega))
    have e1 : ((65 + (r - 65).toNat : Nat) : Int) = r := by omega
    have e2 : ((97 + (r - 65).toNat : Nat) : Int) = r + 32 := by omega
    rw [e1, e2] at this
    have := of_decide_eq_true this
    rw [this]
  · rw [e]
    rcases row_cl hx hk with q | q | q
    · rw [q]
    · rw [q] at h; exact absurd rfl h
    · rw [q]

/-! ### Names, folded -/
theorem scan_runes {l : List Int} (h : ∀ r ∈ l, ValidR r) : scan (runesBytes l) 0 = l := by
  unfold scan
  rw [restS_0, runes_b, runes_enc l h]
theorem scan_valid (s : ByteArray) (pos : Nat) : ∀ r ∈ scan s pos, ValidR r := runesL_valid _ _ (Nat.le_refl _)
theorem scan_fold (s : ByteArray) : scan (foldS s) 0 = (scan s 0).map lowerR := by
  unfold foldS
  refine scan_runes fun r hr => ?_
  obtain ⟨q, hq, rfl⟩ := List.mem_map.1 hr
  exact lower_valid (scan_valid s 0 q hq)
theorem fold_idem (s : ByteArray) : foldS (foldS s) = foldS s := by
  have h : foldS (foldS s) = runesBytes ((scan (foldS s) 0).map lowerR) := rfl
  rw [h, scan_fold, List.map_map]
  have : (scan s 0).map (lowerR ∘ lowerR) = (scan s 0).map lowerR := List.map_congr_left fun r _ => lower_idem r
  rw [this]; rfl
theorem okFrom_low : ∀ (l : List Int) (p : Int), okFrom p l = true → okFrom p (l.map lowerR) = true
  | [], _, _ => rfl
  | r :: l, p, h => by
    rw [okFrom] at h
    simp only [Bool.and_eq_true, decide_eq_true_eq] at h
    obtain ⟨⟨h1, h2⟩, h3⟩ := h
    have e := cls_lower h1
    rw [List.map_cons, okFrom, e]
    simp only [Bool.and_eq_true, decide_eq_true_eq]
    refine ⟨⟨h1, ?_⟩, okFrom_low l _ h3⟩
    simpa using h2
theorem good_fold {s : ByteArray} (h : goodB (scan s 0) = true) : goodB (scan (foldS s) 0) = true := by
  rw [scan_fold]
  unfold goodB at h ⊢
  simp only [Bool.and_eq_true, decide_eq_true_eq, List.length_map] at h ⊢
  exact ⟨h.1, okFrom_low _ _ h.2⟩
theorem blen_le : ∀ l : List Int, (l.flatMap encodeRune).length ≤ 4 * l.length
  | [] => by simp
  | r :: l => by
    have := blen_le l
    have := (enc_len r).2
    simp only [List.flatMap_cons, List.length_append, List.length_cons]
    omega
theorem fold_size (s : ByteArray) : (foldS s).size ≤ 4 * s.size := by
  rw [← bytesOf_len, foldS_b]
  have h1 := blen_le ((scan s 0).map lowerR)
  have h2 := (scan_len s 0).1
  simp only [List.length_map] at h1
  omega
theorem good_ne {s : ByteArray} (h : goodB (scan s 0) = true) : bytesOf s ≠ [] := fun e => by
  have : scan s 0 = [] := scan_f (by rw [restS_0, e])
  rw [this] at h
  simp [goodB] at h
theorem cut_d (s : ByteArray) {n : Int} (h0 : 0 ≤ n) (hn : n ≤ 1000) : ∃ t, gLaw01Cut s n = some t ∧ t.size ≤ 1000 := by
  unfold gLaw01Cut
  by_cases h : n < lenS s
  · rw [ltI_t h]
    refine ⟨cutS s 0 n, ?_, ?_⟩
    · simp only [cond_true]
      rw [need_t ⟨Int.le_refl _, h0, by omega⟩]
    · rw [← bytesOf_len, cutS_b]
      simp only [List.length_take]
      omega
  · rw [ltI_f h]
    refine ⟨s, rfl, ?_⟩
    unfold lenS at h
    omega
end Go.Proofs
