import Derived.Test.YtpamnignoocogaaGreatDoorM15
import Derived.Test.YtpamnignoocogaaGreatDoorM12
set_option maxRecDepth 100000
namespace Go.Proofs
open Go.Ab
theorem indexByteS_free (l : List AV) (M : List AObj) (o : Out) (h : indexByteS l M = some o) : o.obl := by
 unfold indexByteS at h;split at h <;> first | (cases h; trivial) | cases h
def Tryz.lib : List (FuncId × Sp) :=
  [(56, indexByteS), (20, chkS splitS splitOb), (75, letterA), (76, digitA),
   (29, orS (chkS (wrPutB 126 5) (putBOb 126 5)) (chkS (wrPutB 81 5) (putBOb 81 5))),
   (101, orS (chkS (wrPutT 126 5) (putTOb 126 5)) (chkS (wrPutT 81 5) (putTOb 81 5))),
   (30, chkS (wrTextE 81 5) (textEOb 81 5)),
   (68, chkS (wrPutS 126 5) (putSOb 126 5)),
   (73, chkS (wrTextS 126 5) (textOb 126 5)),
   (84, chkS (wrPutR 81 5) (putROb 81 5)),
   (360, chkS (wrLenS 126 5) (lenOb 126 5)),
   (155, chkS (cloneS 1 8) (cloneOb 1 8)),
   (379, keysS 433),
   (172, keysS 242),
   (341, keysS 412),
   (417, keysS 448),
   (171, orS (chkS (sortedS 433) sortedOb) (orS (chkS (sortedS 242) sortedOb) (orS (chkS (sortedS 412) sortedOb) (chkS (sortedS 448) sortedOb)))),
   (382, keysS 436),
   (381, chkS (sortedSS 436) sortedSOb),
   (271, keysLS 359),
   (270, chkS (sortedLS 359 272) (sortedLOb 359 272)),
   (169, keysLS 237),
   (235, collectES 237)]
theorem Tryz.libAll : LibAll Tryz.prog Tryz.lib :=
  ⟨.free gaz.ok indexByteS_free, .chk gaD.ok splitOb_spec, letterA_ok, digitA_ok,
   .or (.chk gaF.ok putBOb_spec) (.chk gBwByte.ok putBOb_spec), .or (.chk gaG.ok putTOb_spec) (.chk gBwText.ok putTOb_spec), .chk gBwString.ok textEOb_spec,
   .chk gag.U8.ok putSOb_spec, .chk gag.Text.ok textOb_spec, .chk gan.WriteRune.ok putROb_spec, .chk gOwLen.ok lenOb_spec, .chk libCloneI.ok cloneOb_spec,
   .free keysD.ok keysS_free, .free keysP.ok keysS_free, .free keysE.ok keysS_free, .free keysN.ok keysS_free,
   .or (.chk sortedD.ok sortedOb_spec) (.or (.chk sortedP.ok sortedOb_spec) (.or (.chk sortedE.ok sortedOb_spec) (.chk sortedN.ok sortedOb_spec))),
   .free keysT.ok keysS_free, .chk sortedT.ok sortedSOb_spec, .free keysL_ok keysLS_free, .chk sortedL_ok sortedLOb_spec, .free keysU_ok keysLS_free, .free collectE_ok collectES_free, trivial⟩
noncomputable def Tryz.ev : EvT where
 ty := Tryz.ty
 look := fun f => match Tryz.prog.funcs[f]? with
  | some fn => bif fn.name == "runtime.NumGoroutine" then none else some fn
  | none => none
 lib := libL Tryz.lib
 wr := fun t => bif t == 126 then some 5 else bif t == 81 then some 5 else none
theorem Tryz.evOk : EvOk Tryz.prog Tryz.ev where
 ty := Tryz.tyOk
 look := fun f fn h => by
  unfold Tryz.ev at h;simp only at h;split at h
  ·rename_i fn' hf;cases hn : fn'.name == "runtime.NumGoroutine" <;> rw [hn] at h
   ·cases h; exact ⟨hf, hn⟩
   ·cases h
  ·cases h
 lib := fun f l M o h => libL_ok Tryz.libAll f l M o h
 mixed := Tryz.mixed
 wr := fun t e h w => by
  unfold Tryz.ev at h;simp only at h;cases h1 : t == 126 <;> rw [h1] at h
  ·cases h2 : t == 81 <;> rw [h2] at h
   ·cases h
   ·rw [eq_of_beq h2]; exact Tryz.bZero w
  ·rw [eq_of_beq h1]; exact Tryz.wrZero w
theorem awake_run : evF Tryz.ev 100000 9 [] [] = some { av := .lit (.bool true) } := by kernel_rfl
theorem gaq.can (r : Bool) (hr : gaq = some r) : CallOk Tryz.prog 9 [] [] { av := .lit (.bool r) } := by
 cases hr;exact evF_ok Tryz.evOk 100000 awake_run
end Go.Proofs
