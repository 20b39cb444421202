/- What the laid tables of package unicode say, to whatever world they lie in. No condition. -/
import Derived.Test.YtoaiieheibcnlaaDoorShU
namespace Go.Ab
open Go.Proofs Go.RowKit Go.Shelf Go.Lib
/-- What is known of the world throughout a call: Go's tables. -/
def fctF (w : World) : Prop :=
  Lib.TabIs Tryd.prog w "unicode.properties" .u8 Lib.propertiesTab ∧ RVar (Tryd.laysLetter_ren.g 8) letterT w ∧ RVar (Tryd.laysDigit_ren.g 5) digitT w ∧ CaseVar (Tryd.laysLower_ren.g 13) caseA w
theorem Tryd.gProps : Tryd.prog.globalNamed "unicode.properties" = some (Tryd.laysLetter_ren.g 7) := by kernel_rfl
/-- Where the blocks stay, what is known stays. -/
theorem fctF_lasts {w : World} (h : fctF w) (w' : World) (hb : ∀ b, b < w.heap.size → w'.heap[b]? = w.heap[b]?) : fctF w' := by
  have hsz : w.heap.size ≤ w'.heap.size := by
    rcases Nat.lt_or_ge w'.heap.size w.heap.size with h | h
    · have := hb w'.heap.size h
      rw [Array.getElem?_eq_none (Nat.le_refl _), Array.getElem?_eq_getElem h] at this
      cases this
    · exact h
  have B : Below w.heap.size w { w with heap := w'.heap } := ⟨rfl, rfl, rfl, hsz, fun k hk => hb k hk⟩
  obtain ⟨h1, h2, h3, h4⟩ := h
  have e1 := TabIs_below Tryd.gProps h1 B
  have e2 := RVar_below h2 B
  have e3 := RVar_below h3 B
  have e4 := CaseVar_below h4 B
  exact ⟨e1, e2, e3, e4⟩
end Go.Ab
