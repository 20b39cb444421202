import Derived.Test.YtpamnignoocogaaGreatDoorM01
import Derived.Test.YtpamnignoocogaaGreatDoorRows
import Derived.Lib.LaidRTab
import Derived.Lib.LaidCase
import Derived.Lib.LaidTab
import Derived.PinnedBridge
import Derived.Lay
import Derived.LaidOnce
import Derived.LaidSub
import Derived.HandedShaped
import Derived.Shelf.Vars
namespace Go.Proofs.YtpamnignoocogaaGreatDoor
open Go.RowKit Go.Shelf Go.Lib Go.Ab Go.Proofs
theorem extraL : RExtra Tryz.prog Tryz.laysLetter_ren := ⟨by kernel_rfl, by kernel_rfl, by kernel_rfl, by kernel_rfl, by kernel_rfl, by kernel_rfl, by kernel_rfl, by kernel_rfl⟩
theorem extraD : RExtra Tryz.prog Tryz.laysDigit_ren := ⟨by kernel_rfl, by kernel_rfl, by kernel_rfl, by kernel_rfl, by kernel_rfl, by kernel_rfl, by kernel_rfl, by kernel_rfl⟩
theorem extraC : CaseExtra Tryz.prog Tryz.laysLower_ren := ⟨by kernel_rfl, by kernel_rfl, by kernel_rfl, by kernel_rfl, by kernel_rfl, by kernel_rfl⟩
def laidU : List (String × DataW Unit) := Rows.scriptReadsRow.laid
theorem laidU_eq : laidU.filter (fun x => x.1 == "unicode.properties" || x.1 == "unicode.Letter" || x.1 == "unicode.Digit" || x.1 == "unicode.CaseRanges") = [("unicode.properties", tabData .u8 propertiesTab), ("unicode.Letter", Go.Pinned.letter), ("unicode.Digit", Go.Pinned.digit), ("unicode.CaseRanges", Go.Pinned.caseRanges)] := by kernel_rfl
theorem laid_plain (w : World) : laidMetH Tryz.prog laidU w = laidMet Tryz.prog laidU w := MakeChecks.laidMetH_plain _ _ _ (by kernel_rfl)
theorem facts_here {w : World} (h : laidMetH Tryz.prog laidU w) (hs : w.ShapedOpen Tryz.prog) : fctF w := by
 rw [laid_plain] at h;have h' := laidMet.filter (fun x => x.1 == "unicode.properties" || x.1 == "unicode.Letter" || x.1 == "unicode.Digit" || x.1 == "unicode.CaseRanges") h;rw [laidU_eq] at h';refine ⟨?_, ?_, ?_, ?_, ?_⟩
 ·exact Lib.tabIs_of_head (t := 173) (e := 5) (n := 256) Tryz.gaB (by kernel_rfl) (by kernel_rfl) (by kernel_rfl) (by kernel_rfl) (by kernel_rfl) h'
 ·exact rvar_of_reads { Tryz.laysLetter with } extraL (name := "unicode.Letter") (by kernel_rfl) (by kernel_rfl) (Go.Pinned.letter_eq ▸ Lib.laidMet.reads h' (.tail _ (.head _)))
 ·exact rvar_of_reads { Tryz.laysDigit with } extraD (name := "unicode.Digit") (by kernel_rfl) (by kernel_rfl) (Go.Pinned.digit_eq ▸ Lib.laidMet.reads h' (.tail _ (.tail _ (.head _))))
 ·exact caseVar_of_reads { Tryz.laysLower with } (by kernel_rfl) extraC (Go.Pinned.caseRanges_eq ▸ Lib.laidMet.reads h' (.tail _ (.tail _ (.tail _ (.head _)))))
 ·exact cell_of_shapedOpen_int (P := Tryz.prog) (g := Tryz.laysSplit_ren.g 1) (t := 3) (zero := #[.int .i64 0]) hs (of_decide_eq_true (by kernel_rfl)) (by kernel_rfl) rfl (by kernel_rfl) (by kernel_rfl) Tryz.underlying3
theorem facts_laid (w : World) (h : laidMetH Tryz.prog laidU w) (hs : w.ShapedOpen Tryz.prog) (w' : World) (hb : ∀ b, b < w.heap.size → w'.heap[b]? = w.heap[b]?) : fctF w' := fctF_lasts (facts_here h hs) w' hb
theorem laid_world (os : Os) (args : Array Value) : laidMetH Tryz.prog laidU ((World.laidAll Tryz.prog os laidU).forCall (fun _ _ => 0) ⟨#[], args, []⟩).memory := by
 rw [laid_plain];exact laidMet_laidAll _ (by kernel_rfl) (by kernel_rfl)
theorem laid_shape (os : Os) (args : Array Value) : ((World.laidAll Tryz.prog os laidU).forCall (fun _ _ => 0) ⟨#[], args, []⟩).Shaped Tryz.prog := World.shaped_of_ZipB (by kernel_rfl) (by kernel_rfl)
end Go.Proofs.YtpamnignoocogaaGreatDoor
