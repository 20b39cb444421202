/- The least of a list, as the library's function reckons it. No condition. -/
import Derived.Test.YtkbfbedphdlgiaaMnD
import Derived.Test.YtkbfbedphdlgiaaLv
import Derived.Test.YtkbfbedphdlgiaaKl
namespace Go.Proofs
open Go.Ab
theorem foldl_min : ∀ (l : List Int) (a : Int), (l.foldl min a = a ∨ l.foldl min a ∈ l) ∧ l.foldl min a ≤ a ∧ ∀ x ∈ l, l.foldl min a ≤ x
  | [], a => ⟨.inl rfl, Int.le_refl _, fun _ h => by cases h⟩
  | b :: l, a => by
    obtain ⟨h1, h2, h3⟩ := foldl_min l (min a b)
    refine ⟨?_, ?_, fun x hx => ?_⟩
    · simp only [List.foldl_cons]
      rcases h1 with h1 | h1
      · rw [h1]
        rcases Int.le_total a b with h | h
        · left; omega
        · right; simp; left; omega
      · right; exact .tail _ h1
    · simp only [List.foldl_cons]; omega
    · simp only [List.foldl_cons]
      cases hx with
      | head => omega
      | tail _ hx => exact h3 x hx

theorem minL_mem {l : List Int} (h : l ≠ []) : minL l ∈ l := by
  cases l with
  | nil => exact absurd rfl h
  | cons a l =>
    have := (foldl_min l (min a a)).1
    simp only [minL, List.foldl_cons, List.headD_cons]
    rcases this with h | h
    · rw [h]; simp
    · exact .tail _ h
theorem minL_le {l : List Int} : ∀ x ∈ l, minL l ≤ x := by
  cases l with
  | nil => intro x hx; cases hx
  | cons a l =>
    intro x hx
    have h2 := (foldl_min l (min a a)).2
    simp only [minL, List.foldl_cons, List.headD_cons]
    cases hx with
    | head => have := h2.1; omega
    | tail _ hx => exact h2.2 x hx
theorem minL_of {l : List Int} {m : Int} (h1 : m ∈ l) (h2 : ∀ x ∈ l, m ≤ x) : minL l = m := by
  have hne : l ≠ [] := by rintro rfl; cases h1
  have := minL_le m h1
  have := h2 _ (minL_mem hne)
  omega

theorem min_plain {l : List Int} (h : MinB l) : gSlicesMinInt64Int64 l = some (minL l) := by
  obtain ⟨h0, h1⟩ := h
  have hl : lenL l = (l.length : Int) := rfl
  unfold gSlicesMinInt64Int64
  rw [ltI_f (by rw [hl]; omega)]
  simp only [cond_false, bind_so, flC_go]
  rw [need_t ⟨Int.le_refl 0, by rw [hl]; omega⟩]
  obtain ⟨t, ht, m, rfl, hm⟩ := loop_ends (body := gSlicesMinInt64Int64.loop2 l)
    (fun s => ∃ i : Nat, s.1 = (i : Int) ∧ 1 ≤ i ∧ i ≤ l.length ∧ s.2 ∈ l ∧ ∀ j : Nat, j < i → s.2 ≤ l.getD j 0) (fun t => ∃ m, t = .go m ∧ minL l = m) (fun s => l.length - s.1.toNat)
    (fun s ⟨i, e1, e2, e3, e4, e5⟩ => by
      obtain ⟨a, b⟩ := s
      simp only at e1 e4 e5
      subst e1
      unfold gSlicesMinInt64Int64.loop2
      by_cases hi : i < l.length
      · rw [ltI_t (by rw [hl]; omega)]
        simp only [cond_true]
        rw [need_t ⟨by omega, by rw [hl]; omega⟩, addI_n (by omega) (by omega), minI_d]
        have hn : nthI l (i : Int) = l[i] := by simp [nthI, hi]
        refine ⟨⟨i + 1, by simp, by omega, by omega, ?_, fun j hj => ?_⟩, by simp only; omega⟩
        · simp only [hn]
          rcases Int.le_total b l[i] with h | h
          · rw [show min b l[i] = b by omega]; exact e4
          · rw [show min b l[i] = l[i] by omega]; exact List.getElem_mem hi
        · simp only [hn]
          rcases Nat.lt_or_ge j i with h | h
          · have := e5 j h; omega
          · have hji : j = i := by omega
            subst hji
            simp only [List.getD_eq_getElem?_getD, List.getElem?_eq_getElem hi, Option.getD_some]
            omega
      · rw [ltI_f (by rw [hl]; omega)]
        refine ⟨b, rfl, minL_of e4 fun x hx => ?_⟩
        obtain ⟨j, hj, rfl⟩ := List.mem_iff_getElem.1 hx
        have := e5 j (by omega)
        simpa [hj] using this) (1, nthI l 0) ⟨1, rfl, Nat.le_refl _, by omega, by
          have : nthI l 0 = l[0] := by simp [nthI, h0]
          simp only [this]; exact List.getElem_mem _, fun j hj => by
          have hj0 : j = 0 := by omega
          subst hj0
          simp [nthI, h0]⟩
  rw [ht]
  simp only [bind_so, flC_go, hm]
end Go.Proofs
