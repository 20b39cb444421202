/- What these functions compute, as plain functions. No condition. -/
import Derived.Test.YtpjplfnapgpfmaaGreatTs
import Derived.Test.YtpjplfnapgpfmaaGreatM08
import Derived.Test.YtpjplfnapgpfmaaGreatM06
import Derived.Test.YtpjplfnapgpfmaaGreatM10
import Derived.Test.YtpjplfnapgpfmaaGreatM03
import Derived.Test.YtpjplfnapgpfmaaGreatM05
import Derived.Test.YtpjplfnapgpfmaaGreatSh
import Derived.Test.YtpjplfnapgpfmaaGreatTy
import Derived.Test.YtpjplfnapgpfmaaGreatRt
import Derived.Test.YtpjplfnapgpfmaaGreatM13
import Derived.Test.YtpjplfnapgpfmaaGreatVr
import Derived.Test.YtpjplfnapgpfmaaGreatM09
section
namespace Go.Proofs
open Go.Ab
noncomputable def gaU : Option Bool :=
 ((gL (Ts.mk false 96 1 0 0 [] false 0 ⟨#[]⟩ ⟨#[120]⟩ 0))).bind fun r1 =>
 ((gaz r1)).bind fun r2 =>
 (gaD).bind fun r3 =>
 need (Under (pickB (pickB (eqI r2.2 0) (eqS r2.1.fC ⟨#[120]⟩) false) (eqI r2.1.fI 96) false) true ((gae r3).isSome = true)) <|
 need (Under (pickB (pickB (pickB (eqI r2.2 0) (eqS r2.1.fC ⟨#[120]⟩) false) (eqI r2.1.fI 96) false) (eqI (lenS ((gae r3).getD dflt)) 1) false) true ((gax [(RtcpPacket.c0 (Tw.mk 1 2))]).isSome = true)) <|
 need (Under (pickB (pickB (pickB (eqI r2.2 0) (eqS r2.1.fC ⟨#[120]⟩) false) (eqI r2.1.fI 96) false) (eqI (lenS ((gae r3).getD dflt)) 1) false) true (InB 1 (lenS ((gax [(RtcpPacket.c0 (Tw.mk 1 2))]).getD dflt)))) <|
 some (pickB (pickB (pickB (pickB (eqI r2.2 0) (eqS r2.1.fC ⟨#[120]⟩) false) (eqI r2.1.fI 96) false) (eqI (lenS ((gae r3).getD dflt)) 1) false) (eqI (idxS ((gax [(RtcpPacket.c0 (Tw.mk 1 2))]).getD dflt) 1) 206) false)
end Go.Proofs
end
section
namespace Go.Proofs
open Go.Ab
noncomputable def gt.loop2 (r4 : Tu × List Tb × Bool) (s2 : Int × (List (Int × Int))) : Option (Fl (Int × (List (Int × Int))) (Fl (List (Int × Int)) (Fl (Int × (List (Int × Int)) × (List (Int × Int)) × Int × Int × Bool × (List (Int × Tk)) × Tt × Int × Int × Tc × Int × Int × (List (Int × Int))) (Fl ((List (Int × Int)) × (List (Int × Int)) × Int × Int × Bool × (List (Int × Tk)) × Tt × Int × Int × Tc × Int × Int × (List (Int × Int))) Bool)))) :=
 bif (ltI s2.1 (lenL r4.2.1)) then (
  need (InB s2.1 (lenL r4.2.1)) <|
  bif (leqI ((nthI r4.2.1 s2.1).fD.fN) (getM eqI ((nthI r4.2.1 s2.1).fId) 0 s2.2)) then (
   some (.out (.out (.out (.out false))))
  ) else (
    some (.go ((addI .i64 s2.1 1), (setM eqI ((nthI r4.2.1 s2.1).fId) ((nthI r4.2.1 s2.1).fD.fN) s2.2)))
  )
 ) else (
   some (.out (.go s2.2))
 )

noncomputable def gt.loop1 (x2 : List Tq) (s1 : Int × (List (Int × Int)) × (List (Int × Int)) × Int × Int × Bool × (List (Int × Tk)) × Tt × Int × Int × Tc × Int × Int × (List (Int × Int))) : Option (Fl (Int × (List (Int × Int)) × (List (Int × Int)) × Int × Int × Bool × (List (Int × Tk)) × Tt × Int × Int × Tc × Int × Int × (List (Int × Int))) (Fl ((List (Int × Int)) × (List (Int × Int)) × Int × Int × Bool × (List (Int × Tk)) × Tt × Int × Int × Tc × Int × Int × (List (Int × Int))) Bool)) :=
 bif (pickB (ltI s1.1 (lenL x2)) (ltI s1.1 100) false) then (
  need (InB s1.1 (lenL x2)) <|
  ((gO (Tu.mk (Th.mk s1.2.2.2.2.2.2.2.1 s1.2.2.2.2.2.2.1 (Tp.mk s1.2.2.2.1 s1.2.1 s1.2.2.1 s1.2.2.2.2.1 s1.2.2.2.2.2.1) s1.2.2.2.2.2.2.2.2.1 s1.2.2.2.2.2.2.2.2.2.1) s1.2.2.2.2.2.2.2.2.2.2.1 s1.2.2.2.2.2.2.2.2.2.2.2.1 s1.2.2.2.2.2.2.2.2.2.2.2.2.1) (nthI x2 s1.1))).bind fun r4 =>
  bif (notB r4.2.2) then (
   some (.out (.out false))
  ) else (
    ((loopF (gt.loop2 r4) (0, s1.2.2.2.2.2.2.2.2.2.2.2.2.2)).bind fun f => flC f fun (v2 : (List (Int × Int))) =>
      some (.go ((addI .i64 s1.1 1), r4.1.fO.fa.fk, r4.1.fO.fa.fp, r4.1.fO.fa.fb, r4.1.fO.fa.fAt, r4.1.fO.fa.fg, r4.1.fO.fh, r4.1.fO.fe, r4.1.fO.fc, r4.1.fO.ff, r4.1.fX, r4.1.fA, r4.1.fN, v2))
    )
  )
 ) else (
   some (.out (.go (s1.2.1, s1.2.2.1, s1.2.2.2.1, s1.2.2.2.2.1, s1.2.2.2.2.2.1, s1.2.2.2.2.2.2.1, s1.2.2.2.2.2.2.2.1, s1.2.2.2.2.2.2.2.2.1, s1.2.2.2.2.2.2.2.2.2.1, s1.2.2.2.2.2.2.2.2.2.2.1, s1.2.2.2.2.2.2.2.2.2.2.2.1, s1.2.2.2.2.2.2.2.2.2.2.2.2.1, s1.2.2.2.2.2.2.2.2.2.2.2.2.2)))
 )

noncomputable def gt (x0 : Int) (x1 : Int) (x2 : List Tq) : Option Bool :=
 (gaU).bind fun r1 =>
 bif (notB r1) then (
  some false
 ) else (
   ((gaw x0 x1)).bind fun r2 =>
   ((gaM r2)).bind fun r3 =>
   bif (notB r3.2) then (
    some false
   ) else (
     ((loopF (gt.loop1 x2) (0, r3.1.fO.fa.fk, r3.1.fO.fa.fp, r3.1.fO.fa.fb, r3.1.fO.fa.fAt, r3.1.fO.fa.fg, r3.1.fO.fh, r3.1.fO.fe, r3.1.fO.fc, r3.1.fO.ff, r3.1.fX, r3.1.fA, r3.1.fN, [])).bind fun f => flC f fun (_v1 : (List (Int × Int)) × (List (Int × Int)) × Int × Int × Bool × (List (Int × Tk)) × Tt × Int × Int × Tc × Int × Int × (List (Int × Int))) =>
       some true
     )
   )
 )
end Go.Proofs
end
section
namespace Go.Proofs
open Go.Ab Go.Shelf
theorem libKeys.gaW.ok : SpecOk Tryz.prog 63 (keysS 91) :=
 keys_ok Tryz.keysAE rfl rfl (enters_of Tryz.func63 (by kernel_rfl) rfl)
theorem Tryz.sortsE (m : Nat) : AnyZI.SortsIn Tryz.prog Tryz.sortedAD_ren Fence.wide m :=
  ⟨fun blk off cap ss W hH hblk hsz => callsIn_wide.2 (AnyM.slices_Sort_int Tryz.sortAD blk off cap ss W hH hblk hsz),
   fun p cap W => callsIn_wide.2 (AnyM.slices_Sort_int_none Tryz.sortAD p cap W)⟩
theorem libSorted.gaY.ok : SpecOk Tryz.prog 62 (sortedS 91) :=
 sorted_ok Tryz.sortedAD { Tryz.keysAE with } rfl rfl (enters_of Tryz.func62 (by kernel_rfl) rfl) Tryz.sortsE (enters_of Tryz.func90 (by kernel_rfl) rfl) (enters_of Tryz.func91 (by kernel_rfl) rfl)
end Go.Proofs
end
section
namespace Go.Proofs
open Go.Ab
@[simp] def gaU.out  (r : Bool) : Out := { av := .lit (.bool r), M := none }
set_option maxHeartbeats 4000000 in
set_option maxRecDepth 100000 in
theorem gaU.can  (r : Bool) (hr : gaU = some r) : CallOk Tryz.prog 5 [] [] (gaU.out  r) := by
 unfold gaU at hr
 have hΓ := (gamL_cons gL.ok (gamL_cons gae.ok (gamL_cons gax.ok (gamL_cons gaz.ok (gamL_cons gaD.ok (gamL_nil))))) : GamOk Tryz.prog _)
 refine cw Tryz.func5 rfl (by kernel_rfl) rfl rfl (by simp) fun _ _ _ => ?_
 refine tq hΓ [] [] ?_
 refine tq hΓ [1] [] ?_
 obtain ⟨r1, h7, hr⟩ := Lb hr
 obtain ⟨r2, h8, hr⟩ := Lb hr
 refine tq hΓ [2, 3] [1] ?_ (by simp [h7, h8]; exact rr)
 obtain ⟨r3, h9, hr⟩ := Lb hr
 refine tq hΓ [4] [] ?_ (by simp [h9]; exact rr)
 obtain ⟨h10, hr⟩ := Lc hr
 obtain ⟨h11, hr⟩ := Lc hr
 obtain ⟨h12, hr⟩ := Lc hr
 refine tq hΓ [0] [4, 2, 3] ?_ (by simp [h10, h11, h12]; exact rr)
 obtain rfl := La hr
 exact AWp.ret (Le (by simp))

@[simp] noncomputable def gaU.S : Sp
  | [], _ => some { av := .lit (.bool (gaU.getD dflt)), M := none, obl := gaU.isSome = true }
  | _, _ => none

set_option maxHeartbeats 1000000 in
theorem gaU.ok : SpecOk Tryz.prog 5 gaU.S := by
 intro l M out h
 unfold gaU.S at h
 split at h
 ·cases h
  refine callOk_of fun ho => ?_
  have hs := ho
  obtain ⟨r, hr⟩ := so1 hs
  simp only [hr, gd1]
  have q := Lh (M := M) [] (gaU.can r hr) (by simp) rfl ixn
  exact callOk_conv q trivial (by simp) (by simp [frameOut]) (by simp [frameOut])
 ·cases h
end Go.Proofs
end
section
namespace Go.Proofs
open Go.Ab

theorem wf_id {x : AcT} (w : (Lit.int .i64 x.fId).wf = true) : -9223372036854775808 ≤ x.fId ∧ x.fId ≤ 9223372036854775807 := by
 simp only [Lit.wf, Bool.and_eq_true, decide_eq_true_eq] at w
 exact w

end Go.Proofs
end
section
namespace Go.Proofs
open Go.Ab

theorem rd_len (l : List UInt8) (e : Int) : gah (Tj.mk (ofB l) e) = some (l.length : Int) := by
 unfold gah; rw [lenS_of]
theorem rest_d (l : List UInt8) : gP (Tj.mk (ofB l) 0) = some (ofB l, Tj.mk (ofB []) 0) := by
 unfold gP
 rw [rd_len]
 simp only [Ld]
 rw [bytes_d, stp_ok (Nat.le_refl _)]
 simp
theorem live_text : gL (Ts.mk false 96 1 0 0 [] false 0 ⟨#[]⟩ ⟨#[120]⟩ 0) = some (ofB [128, 96, 0, 1, 0, 0, 0, 0, 0, 0, 0, 0, 120]) := by
 have e0 : appL [] [bitsOp .or .u8 (bitsOp .or .u8 (bitsOp .or .u8 128 0) 0) (cvtI .u8 (lenL ([] : List Int))), bitsOp .or .u8 0 96] = nums [128, 96] := by decide
 have e1 : gi (nums [128, 96]) [1] = some (nums [128, 96, 0, 1]) := by
  have := u16w (x := 1) (by omega) (by omega) [128, 96] (by decide)
  rw [cvtu16 (by omega) (by omega)] at this
  rw [this]; congr 1
 have e2 : gk (nums [128, 96, 0, 1]) [0, 0] = some (nums [128, 96, 0, 1, 0, 0, 0, 0, 0, 0, 0, 0]) := by
  rw [u32w_d (ss := [0, 0]) (by decide) (by decide) _ (by decide)]; congr 1
 have e3 : gk (nums [128, 96, 0, 1, 0, 0, 0, 0, 0, 0, 0, 0]) [] = some (nums [128, 96, 0, 1, 0, 0, 0, 0, 0, 0, 0, 0]) := by
  rw [u32w_d (ss := []) (by simp) (by decide) _ (by decide)]; congr 1
 have e4 : gn (nums [128, 96, 0, 1, 0, 0, 0, 0, 0, 0, 0, 0]) [⟨#[120]⟩] = some (nums [128, 96, 0, 1, 0, 0, 0, 0, 0, 0, 0, 0, 120]) := put_d [120] (by decide) (by decide) _ (by decide)
 unfold gL
 simp only [gaS, show ltI 0 0 = false from rfl, cond_false, Ld]
 rw [Lf (show AppB 0 2 1 by decide), e0, e1]
 simp only [Ld, e2, e3, flC_go, e4]
 rw [loopF_eq]
 simp only [gL.loop2, show ltI 0 0 = false from rfl, cond_false, Ld, flC_go]
 rw [Lf (show TextB _ by decide), str_nums]
theorem live_parse : ∃ p, gaz (ofB [128, 96, 0, 1, 0, 0, 0, 0, 0, 0, 0, 0, 120]) = some (p, 0) ∧ p.fC = ofB [120] ∧ p.fI = 96 := by
 unfold gaz
 rw [show ltI 1500 (lenS (ofB [128, 96, 0, 1, 0, 0, 0, 0, 0, 0, 0, 0, 120])) = false by rw [lenS_of]; rfl]
 simp only [cond_false, gaP, Ld, u8_d, u16_d, u32_d, gZ]
 simp only [show stp 1 [128, 96, 0, 1, 0, 0, 0, 0, 0, 0, 0, 0, 120] 0 = ([128], [96, 0, 1, 0, 0, 0, 0, 0, 0, 0, 0, 120], 0) from rfl, show stp 1 [96, 0, 1, 0, 0, 0, 0, 0, 0, 0, 0, 120] 0 = ([96], [0, 1, 0, 0, 0, 0, 0, 0, 0, 0, 120], 0) from rfl,
  show stp 2 [0, 1, 0, 0, 0, 0, 0, 0, 0, 0, 120] 0 = ([0, 1], [0, 0, 0, 0, 0, 0, 0, 0, 120], 0) from rfl, show stp 4 [0, 0, 0, 0, 0, 0, 0, 0, 120] 0 = ([0, 0, 0, 0], [0, 0, 0, 0, 120], 0) from rfl, show stp 4 [0, 0, 0, 0, 120] 0 = ([0, 0, 0, 0], [120], 0) from rfl,
  show val [128] = 128 from rfl, show val [96] = 96 from rfl]
 rw [Lf (show Under (eqI 0 0) true (NonN 6) from fun _ => by unfold NonN; omega), show pickB (eqI 0 0) (neI (shrI .u8 128 6) 2) false = false by decide]
 simp only [cond_false]
 rw [loopF_eq]
 simp only [gaz.loop1]
 rw [show ltI 0 (bitsOp .and .u8 128 15) = false by decide]
 simp only [cond_false, Ld, flC_go]
 rw [show ltI 0 (bitsOp .and .u8 128 16) = false by decide]
 simp only [cond_false, Ld, flC_go, rest_d, show pickB (eqI 0 0) (ltI 0 (bitsOp .and .u8 128 32)) false = false by decide, show neI 0 0 = false from rfl]
 exact ⟨_, rfl, rfl, by decide⟩
theorem live_vp : gae (Tv.mk false false 0 (-1) false (-1) (-1) false (-1)) = some (ofB [0]) := by
 unfold gae
 simp only [gaJ, Ld]
 rw [show pickB (pickB (pickB (leqI 0 (-1)) true (leqI 0 (-1))) true (leqI 0 (-1))) true (leqI 0 (-1)) = false by decide]
 simp only [gaQ, cond_false, Ld, show notB false = true from rfl, cond_true]
 rw [Lf (show AppB 0 1 1 by decide), show appL [] [bitsOp .or .u8 (bitsOp .or .u8 (bitsOp .or .u8 0 0) 0) (cvtI .u8 (bitsOp .and .i64 0 7))] = nums [0] by decide, Lf (show TextB _ by decide), str_nums]
theorem live_rtcp : gax [(RtcpPacket.c0 (Tw.mk 1 2))] = some (ofB [129, 206, 0, 2, 0, 0, 0, 1, 0, 0, 0, 2]) := by
 have e1 : gaT [] (RtcpPacket.c0 (Tw.mk 1 2)) = some (nums [0, 0, 0, 1, 0, 0, 0, 2]) := by
  unfold gaT gaI RtcpPacket.by
  simp only
  have := u32w_d (ss := [1, 2]) (by decide) (by decide) [] (by decide)
  rw [show nums [] = [] from rfl] at this
  rw [this]
  simp only [Ld]
  congr 1
 have e2 : gC (nums [0, 0, 0, 1, 0, 0, 0, 2]) 4 = some (nums [0, 0, 0, 1, 0, 0, 0, 2]) := by
  unfold gC
  rw [loopF_eq]
  simp only [gC.loop1, gR, Ld]
  rw [Lf (show NonZ (maxI 4 1) by decide), show neI (remI (lenL (nums [0, 0, 0, 1, 0, 0, 0, 2])) (maxI 4 1)) 0 = false by decide]
  simp only [cond_false, Ld, flC_go]
 have e3 : gi (nums [129, 206]) [cvtI .u16 (quoI .i64 (lenL (nums [0, 0, 0, 1, 0, 0, 0, 2])) 4)] = some (nums [129, 206, 0, 2]) := by
  rw [show quoI .i64 (lenL (nums [0, 0, 0, 1, 0, 0, 0, 2])) 4 = 2 by decide, u16w (x := 2) (by omega) (by omega) [129, 206] (by decide)]
  congr 1
 have e4 : gn (nums [129, 206, 0, 2]) [ofB [0, 0, 0, 1, 0, 0, 0, 2]] = some (nums [129, 206, 0, 2, 0, 0, 0, 1, 0, 0, 0, 2]) := put_d [0, 0, 0, 1, 0, 0, 0, 2] (by decide) (by decide) _ (by decide)
 unfold gax
 rw [loopF_eq]
 simp only [gax.loop1]
 rw [show ltI 0 (lenL [(RtcpPacket.c0 (Tw.mk 1 2))]) = true from rfl, Lf (show InB 0 (lenL [(RtcpPacket.c0 (Tw.mk 1 2))]) from ⟨by omega, by show (0 : Int) < 1; omega⟩), show nthI [(RtcpPacket.c0 (Tw.mk 1 2))] 0 = RtcpPacket.c0 (Tw.mk 1 2) from rfl]
 simp only [cond_true, RtcpPacket.by, gaG, Ld, e1, e2]
 rw [Lf (show AppB (lenL ([] : List Int)) 2 1 by decide)]
 simp only [gR, Ld]
 rw [Lf (show NonZ 4 by decide), show appL [] [bitsOp .or .u8 128 (bitsOp .and .u8 1 31), 206] = nums [129, 206] by decide, e3]
 simp only [Ld]
 rw [Lf (show TextB _ by decide), str_nums, e4]
 simp only [Ld]
 rw [loopF_eq]
 simp only [gax.loop1]
 rw [show ltI (addI .i64 0 1) (lenL [(RtcpPacket.c0 (Tw.mk 1 2))]) = false by decide]
 simp only [cond_false, Ld, flC_go]
 rw [Lf (show TextB _ by decide), str_nums]
theorem live_ok : gaU = some true := by
 obtain ⟨p, h1, h2, h3⟩ := live_parse
 unfold gaU
 rw [live_text]
 simp only [Ld, h1, gaD, live_vp, live_rtcp, h2, h3, Option.getD_some, Option.isSome_some]
 rw [show eqS (ofB [120]) ⟨#[120]⟩ = true by rw [show (⟨#[120]⟩ : ByteArray) = ofB [120] from rfl, eqS_b]; simp, lenS_of, lenS_of]
 rw [Lf (show Under _ _ True from fun _ => trivial), Lf (show Under _ _ True from fun _ => trivial), Lf (show Under _ _ _ from fun _ => ⟨by omega, by show (1 : Int) < 12; omega⟩)]
 decide
end Go.Proofs
end
