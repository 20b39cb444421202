/- Maps of plain keys, as lists of entries: what looking up, setting and deleting come to. No condition. -/
import Derived.Test.YtnoeflijefijcaaM03
import Derived.Test.YtnoeflijefijcaaKl
namespace Go.Proofs
open Go.Ab
variable {V : Type}

theorem hasM_iff {k : Int} : ∀ {m : List (Int × V)}, hasM eqI k m = true ↔ k ∈ keysM m
  | [] => by simp [hasM, keysM]
  | e :: r => by
    have ih := hasM_iff (k := k) (m := r)
    simp only [hasM, keysM, List.map_cons, List.mem_cons]
    by_cases h : k = e.1
    · rw [eqI_t h]; simp [pickB, h]
    · rw [eqI_f h]; simp only [pickB, cond_false, h, false_or]; exact ih
theorem hasM_t {k : Int} {m : List (Int × V)} (h : k ∈ keysM m) : hasM eqI k m = true := hasM_iff.2 h
theorem hasM_f {k : Int} {m : List (Int × V)} (h : k ∉ keysM m) : hasM eqI k m = false := by
  cases hh : hasM eqI k m with
  | false => rfl
  | true => exact absurd (hasM_iff.1 hh) h

theorem getM_of {k : Int} {v z : V} : ∀ {m : List (Int × V)}, (keysM m).Nodup → (k, v) ∈ m → getM eqI k z m = v
  | e :: r, hn, h => by
    simp only [keysM, List.map_cons, List.nodup_cons] at hn
    simp only [getM]
    cases h with
    | head => rw [eqI_t rfl]; rfl
    | tail _ h =>
      have hne : k ≠ e.1 := fun q => hn.1 (List.mem_map.2 ⟨(k, v), h, q⟩)
      rw [eqI_f hne]
      simp only [Bool.false_eq_true, if_false]
      exact getM_of hn.2 h
theorem getM_no {k : Int} {z : V} : ∀ {m : List (Int × V)}, k ∉ keysM m → getM eqI k z m = z
  | [], _ => rfl
  | e :: r, h => by
    simp only [keysM, List.map_cons, List.mem_cons, not_or] at h
    simp only [getM, eqI_f h.1, Bool.false_eq_true, if_false]
    exact getM_no h.2

theorem setM_no {k : Int} {v : V} : ∀ {m : List (Int × V)}, k ∉ keysM m → setM eqI k v m = m ++ [(k, v)]
  | [], _ => rfl
  | e :: r, h => by
    simp only [keysM, List.map_cons, List.mem_cons, not_or] at h
    simp only [setM, eqI_f h.1, Bool.false_eq_true, if_false, List.cons_append]
    rw [setM_no h.2]

theorem delM_perm {k : Int} {v : V} : ∀ {m : List (Int × V)}, (keysM m).Nodup → (k, v) ∈ m → m.Perm ((k, v) :: delM eqI k m)
  | e :: r, hn, h => by
    simp only [keysM, List.map_cons, List.nodup_cons] at hn
    simp only [delM]
    cases h with
    | head => rw [eqI_t rfl]; exact List.Perm.refl _
    | tail _ h =>
      have hne : k ≠ e.1 := fun q => hn.1 (List.mem_map.2 ⟨(k, v), h, q⟩)
      rw [eqI_f hne]
      simp only [Bool.false_eq_true, if_false]
      exact ((delM_perm hn.2 h).cons e).trans (List.Perm.swap _ _ _)
theorem keysM_perm {m m' : List (Int × V)} (h : m.Perm m') : (keysM m).Perm (keysM m') := h.map _
theorem sortL_of {l l' : List Int} (h : l.Perm l') (hs : l'.Pairwise (· ≤ ·)) : sortL l = l' := by
  unfold sortL
  refine List.Perm.eq_of_pairwise (le := fun a b => a ≤ b) (fun a b _ _ h1 h2 => Int.le_antisymm h1 h2) ?_ hs ((List.mergeSort_perm l _).trans h)
  have := List.pairwise_mergeSort (le := fun x y : Int => decide (x ≤ y)) (fun a b c h1 h2 => by simp only [decide_eq_true_eq] at *; omega) (fun a b => by simp only [Bool.or_eq_true, decide_eq_true_eq]; omega) l
  exact this.imp fun h => by simpa using h
theorem KeysB_of {l : List Int} (h : ∀ x ∈ l, -9223372036854775808 ≤ x ∧ x ≤ 9223372036854775807) (hl : l.length ≤ 1000000000000) : KeysB l :=
  ⟨fun x hx => by
    obtain ⟨h1, h2⟩ := h x hx
    simp only [Lit.wf, Bool.and_eq_true, decide_eq_true_eq]
    exact ⟨h1, h2⟩, by omega⟩
end Go.Proofs
