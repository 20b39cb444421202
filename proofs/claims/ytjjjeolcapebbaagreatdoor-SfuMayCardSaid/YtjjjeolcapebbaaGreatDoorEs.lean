/- A sort that the kernel can reckon: it is core's. No condition. -/
import Derived.Test.YtjjjeolcapebbaaGreatDoorM12
namespace Go.Ab
def insX {α : Type} (le : α → α → Bool) (a : α) : List α → List α
  | [] => [a]
  | b :: r => if le a b then a :: b :: r else b :: insX le a r
def srtX {α : Type} (le : α → α → Bool) : List α → List α
  | [] => []
  | a :: r => insX le a (srtX le r)
section
variable {α : Type} {le : α → α → Bool}
theorem insX_perm (a : α) : ∀ l : List α, (insX le a l).Perm (a :: l)
  | [] => .refl _
  | b :: r => by
    unfold insX
    split
    · exact .refl _
    · exact ((insX_perm a r).cons b).trans (.swap _ _ _)
theorem srtX_perm : ∀ l : List α, (srtX le l).Perm l
  | [] => .refl _
  | a :: r => (insX_perm a _).trans ((srtX_perm r).cons a)
theorem insX_sorted (ht : ∀ a b c, le a b = true → le b c = true → le a c = true) (hto : ∀ a b, (le a b || le b a) = true) (a : α) : ∀ l : List α, l.Pairwise (fun x y => le x y = true) → (insX le a l).Pairwise (fun x y => le x y = true)
  | [], _ => by simp [insX]
  | b :: r, h => by
    have hb := List.pairwise_cons.1 h
    unfold insX
    split
    · rename_i q
      refine List.pairwise_cons.2 ⟨fun c hc => ?_, h⟩
      rcases List.mem_cons.1 hc with rfl | hc
      · exact q
      · exact ht _ _ _ q (hb.1 c hc)
    · rename_i q
      refine List.pairwise_cons.2 ⟨fun c hc => ?_, insX_sorted ht hto a r hb.2⟩
      rcases List.mem_cons.1 ((insX_perm a r).mem_iff.1 hc) with rfl | hc
      · have := hto c b
        simp only [Bool.or_eq_true] at this
        exact this.resolve_left q
      · exact hb.1 c hc
theorem srtX_sorted (ht : ∀ a b c, le a b = true → le b c = true → le a c = true) (hto : ∀ a b, (le a b || le b a) = true) : ∀ l : List α, (srtX le l).Pairwise (fun x y => le x y = true)
  | [] => .nil
  | a :: r => insX_sorted ht hto a _ (srtX_sorted ht hto r)
theorem mergeSort_srtX (ht : ∀ a b c, le a b = true → le b c = true → le a c = true) (hto : ∀ a b, (le a b || le b a) = true) (ha : ∀ a b, le a b = true → le b a = true → a = b) (l : List α) : l.mergeSort le = srtX le l :=
  List.Perm.eq_of_pairwise (le := fun a b => le a b = true) (fun a b _ _ h1 h2 => ha a b h1 h2) (List.pairwise_mergeSort ht hto l) (srtX_sorted ht hto l) ((List.mergeSort_perm l le).trans (srtX_perm l).symm)
end
def leX (x y : Int) : Bool := decide (x ≤ y)
theorem sortL_srtX (l : List Int) : sortL l = srtX leX l :=
  mergeSort_srtX (le := leX) (fun a b c h1 h2 => by simp only [leX, decide_eq_true_eq] at *; omega) (fun a b => by simp only [leX, Bool.or_eq_true, decide_eq_true_eq]; omega) (fun a b h1 h2 => by simp only [leX, decide_eq_true_eq] at *; omega) l
@[simp] def sortedI (k : Nat) : Sp
  | [.fn k' [.mp i]], M => if k' = k then (match M[i]? with
    | some (.mapo es) => some { av := .sl ((srtX leX (keysV es)).map (eNum .i64)) .no, obl := IntKeys .i64 es ∧ KeysB (keysV es) }
    | some (.own Q none) => some { av := .sl ((srtX leX (keysV Q.data)).map (eNum .i64)) .no, obl := OwnKeys Q ∧ KeysB (keysV Q.data) }
    | _ => none) else none
  | _, _ => none
theorem sortedI_eq (k : Nat) : sortedI k = sortedS k := by
  funext l M
  unfold sortedI sortedS
  simp only [sortL_srtX]
  rfl
end Go.Ab
