/- What the rows' laid tables say of the world, throughout a call. No condition. -/
import Derived.Test.YtjjjeolcapebbaaGreatDoorM01
import Derived.Test.YtjjjeolcapebbaaGreatDoorRows
import Derived.Lib.LaidRTab
import Derived.Lib.LaidCase
import Derived.Lib.LaidTab
import Derived.PinnedBridge
import Derived.Lay
import Derived.LaidOnce
namespace Go.Proofs.YtjjjeolcapebbaaGreatDoor
open Go.RowKit Go.Shelf Go.Lib Go.Ab Go.Proofs

theorem extraL : RExtra Tryz.prog Tryz.laysLetter_ren := ⟨by kernel_rfl, by kernel_rfl, by kernel_rfl, by kernel_rfl, by kernel_rfl, by kernel_rfl, by kernel_rfl, by kernel_rfl⟩
theorem extraD : RExtra Tryz.prog Tryz.laysDigit_ren := ⟨by kernel_rfl, by kernel_rfl, by kernel_rfl, by kernel_rfl, by kernel_rfl, by kernel_rfl, by kernel_rfl, by kernel_rfl⟩
theorem extraC : CaseExtra Tryz.prog Tryz.laysLower_ren := ⟨by kernel_rfl, by kernel_rfl, by kernel_rfl, by kernel_rfl, by kernel_rfl, by kernel_rfl⟩
def laidU : List (String × DataW Unit) := Rows.sfuMayRow.laid
theorem laidU_eq : laidU = [("unicode.properties", tabData .u8 propertiesTab), ("unicode.CaseRanges", Go.Pinned.caseRanges), ("unicode.Digit", Go.Pinned.digit), ("unicode.Letter", Go.Pinned.letter)] := by kernel_rfl
theorem facts_here {w : World} (h : laidMetH Tryz.prog laidU w) : fctF w := by
  rw [MakeChecks.laidMetH_plain _ _ _ (by kernel_rfl), laidU_eq] at h
  refine ⟨?_, ?_, ?_, ?_⟩
  · exact Lib.tabIs_of_head (t := 481) (e := 5) (n := 256) Tryz.gProps (by kernel_rfl) (by kernel_rfl) (by kernel_rfl) (by kernel_rfl) (by kernel_rfl) h
  · exact rvar_of_reads { Tryz.laysLetter with } extraL (name := "unicode.Letter") (by kernel_rfl) (by kernel_rfl) (Go.Pinned.letter_eq ▸ Lib.laidMet.reads h (.tail _ (.tail _ (.tail _ (.head _)))))
  · exact rvar_of_reads { Tryz.laysDigit with } extraD (name := "unicode.Digit") (by kernel_rfl) (by kernel_rfl) (Go.Pinned.digit_eq ▸ Lib.laidMet.reads h (.tail _ (.tail _ (.head _))))
  · exact caseVar_of_reads { Tryz.laysLower with } (by kernel_rfl) extraC (Go.Pinned.caseRanges_eq ▸ Lib.laidMet.reads h (.tail _ (.head _)))
theorem facts_laid (w : World) (h : laidMetH Tryz.prog laidU w) (w' : World) (hb : ∀ b, b < w.heap.size → w'.heap[b]? = w.heap[b]?) : fctF w' := fctF_lasts (facts_here h) w' hb
theorem laid_plain (w : World) : laidMetH Tryz.prog laidU w = laidMet Tryz.prog laidU w := MakeChecks.laidMetH_plain _ _ _ (by kernel_rfl)
theorem laid_world (os : Os) (args : Array Value) : laidMetH Tryz.prog laidU ((World.laidAll Tryz.prog os laidU).forCall (fun _ _ => 0) ⟨#[], args, []⟩).memory := by
  rw [laid_plain]
  exact laidMet_laidAll _ (by kernel_rfl) (by kernel_rfl)
theorem laid_shape (os : Os) (args : Array Value) : ((World.laidAll Tryz.prog os laidU).forCall (fun _ _ => 0) ⟨#[], args, []⟩).Shaped Tryz.prog := World.shaped_of_ZipB (by kernel_rfl) (by kernel_rfl)
end Go.Proofs.YtjjjeolcapebbaaGreatDoor
