/- What runs on fixed data go by, in this program. No condition. -/
import Derived.Test.YtjjjeolcapebbaaGreatDoorM08
set_option maxRecDepth 100000
namespace Go.Proofs
open Go.Ab
def Tryz.lib : List (FuncId × Sp) :=
  [(196, letterA), (197, digitA), (341, lowerA),
   (193, orS (chkS (wrPutB 143 5) (putBOb 143 5)) (chkS (wrPutB 141 5) (putBOb 141 5))),
   (105, orS (chkS (wrPutT 143 5) (putTOb 143 5)) (chkS (wrPutT 141 5) (putTOb 141 5))),
   (107, chkS (wrTextE 141 5) (textEOb 141 5)),
   (43, chkS (wrPutS 143 5) (putSOb 143 5)),
   (49, chkS (wrTextS 143 5) (textOb 143 5)),
   (340, chkS (wrPutR 141 5) (putROb 141 5)),
   (199, chkS (wrLenS 143 5) (lenOb 143 5)),
   (35, chkS (cloneS 1 8) (cloneOb 1 8)), (131, chkS (cloneS 1 4) (cloneOb 1 4)), (283, chkS (cloneS 7 48) (cloneOb 7 48)),
   (289, keysS 339),
   (85, keysS 158),
   (255, keysS 323),
   (328, keysS 356),
   (84, orS (chkS (sortedI 339) sortedOb) (orS (chkS (sortedI 158) sortedOb) (orS (chkS (sortedI 323) sortedOb) (chkS (sortedI 356) sortedOb)))),
   (293, keysS 344),
   (292, chkS (sortedSS 344) sortedSOb),
   (186, keysLS 272),
   (185, orS (chkS (sortedLI 272 187) (sortedLOb 272 187)) (chkS (A2.sortedLI 338 287) (A2.sortedLOb 338 287))),
   (286, A2.keysLS 338)]
theorem Tryz.libAll : LibAll Tryz.prog Tryz.lib :=
  ⟨letterA_ok, digitA_ok, lowerA_ok,
   .or (.chk gOwByte.ok putBOb_spec) (.chk gBwByte.ok putBOb_spec), .or (.chk gOwText.ok putTOb_spec) (.chk gBwText.ok putTOb_spec), .chk gBwString.ok textEOb_spec,
   .chk gOctetWriter.U8.ok putSOb_spec, .chk gOctetWriter.Text.ok textOb_spec, .chk gBuilder.WriteRune.ok putROb_spec, .chk gOwLen.ok lenOb_spec, .chk libCloneI.ok cloneOb_spec, .chk libCloneU.ok cloneOb_spec, .chk libCloneF.ok cloneOb_spec,
   .free keysD.ok keysS_free, .free keysP.ok keysS_free, .free keysE.ok keysS_free, .free keysN.ok keysS_free,
   .or (chkI sortedD.ok) (.or (chkI sortedP.ok) (.or (chkI sortedE.ok) (chkI sortedN.ok))),
   .free keysT.ok keysS_free, .chk sortedT.ok sortedSOb_spec, .free keysL_ok keysLS_free, .or (chkLI sortedL_ok) (A2.chkLI A2.sortedL_ok), .free A2.keysL_ok A2.keysLS_free, trivial⟩
noncomputable def Tryz.ev : EvT where
  ty := Tryz.ty
  look := fun f => match Tryz.prog.funcs[f]? with
    | some fn => bif fn.name == "runtime.NumGoroutine" then none else some fn
    | none => none
  lib := libL Tryz.lib
  rd := fun f => f == 162 || f == 99 || f == 100 || f == 101
  wr := fun t => bif t == 143 then some 5 else bif t == 141 then some 5 else none
theorem Tryz.evOk : EvOk Tryz.prog Tryz.ev where
  ty := Tryz.tyOk
  look := fun f fn h => by
    unfold Tryz.ev at h
    simp only at h
    split at h
    · rename_i fn' hf
      cases hn : fn'.name == "runtime.NumGoroutine" <;> rw [hn] at h
      · cases h; exact ⟨hf, hn⟩
      · cases h
    · cases h
  lib := fun f l M o h => libL_ok Tryz.libAll f l M o h
  mixed := Tryz.mixed
  wr := fun t e h w => by
    unfold Tryz.ev at h
    simp only at h
    cases h1 : t == 143 <;> rw [h1] at h
    · cases h2 : t == 141 <;> rw [h2] at h
      · cases h
      · rw [eq_of_beq h2]; exact Tryz.bZero w
    · rw [eq_of_beq h1]; exact Tryz.wrZero w
end Go.Proofs
