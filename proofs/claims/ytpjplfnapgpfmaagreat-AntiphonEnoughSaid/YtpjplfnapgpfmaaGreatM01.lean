/- The library's functions on the keys of a map, in this program. No condition. -/
import Derived.Test.YtpjplfnapgpfmaaGreatM03
import Derived.Test.YtpjplfnapgpfmaaGreatSh
import Derived.Test.YtpjplfnapgpfmaaGreatM08
import Derived.Test.YtpjplfnapgpfmaaGreatVr
import Derived.Test.YtpjplfnapgpfmaaGreatM04
import Derived.Test.YtpjplfnapgpfmaaGreatM14
section
namespace Go.Proofs
open Go.Ab Go.Shelf
theorem libKeys.gMapsKeysMapIntIntIntInt.ok : SpecOk Tryz.prog 101 (keysS 109) :=
 keys_ok Tryz.keysAD rfl rfl (enters_of Tryz.func101 (by kernel_rfl) rfl)
theorem Tryz.sortsD (m : Nat) : AnyZI.SortsIn Tryz.prog Tryz.sortedAD_ren Fence.wide m :=
  ⟨fun blk off cap ss W hH hblk hsz => callsIn_wide.2 (AnyM.slices_Sort_int Tryz.sortAD blk off cap ss W hH hblk hsz),
   fun p cap W => callsIn_wide.2 (AnyM.slices_Sort_int_none Tryz.sortAD p cap W)⟩
theorem libSorted.gSlicesSortedInt.ok : SpecOk Tryz.prog 62 (sortedS 109) :=
 sorted_ok Tryz.sortedAD { Tryz.keysAD with } rfl rfl (enters_of Tryz.func62 (by kernel_rfl) rfl) Tryz.sortsD (enters_of Tryz.func90 (by kernel_rfl) rfl) (enters_of Tryz.func109 (by kernel_rfl) rfl)
end Go.Proofs
end
section
namespace Go.Proofs
open Go.Ab

theorem wf_id {x : AcT} (w : (Lit.int .i64 x.fId).wf = true) : -9223372036854775808 ≤ x.fId ∧ x.fId ≤ 9223372036854775807 := by
 simp only [Lit.wf, Bool.and_eq_true, decide_eq_true_eq] at w
 exact w

def tupS (i : Int) (P : Tf) (X : RO) (t N : Int) : Int × (List (Int × Int)) × (List (Int × Int)) × Int × Int × Bool × (List (Int × Tj)) × Ts × Int × Int × Tc × Int × Int :=
 (i, P.fa.fm, P.fa.fp, P.fa.fb, P.fa.fAt, P.fa.fg, P.fh, P.fd, P.fc, P.ff, X, t, N)

end Go.Proofs
end
section
namespace Go.Proofs
open Go.Ab
def Pos (F : List Fw) : Prop := ∀ f ∈ F, ∀ x ∈ f.fQ.fL, 0 ≤ x.fj
theorem Pos.pop {F : List Fw} (h : Pos F) {k : Nat} (hk : k < F.length) : Pos (F.set k (withQ F[k] (rpop F[k].fQ))) := by
 intro f hf x hx
 rcases setL_mem hf with rfl | hf
 ·exact h _ (List.getElem_mem hk) x (List.mem_of_mem_drop hx)
 ·exact h f hf x hx
theorem Rel.pos {P : Tf} {X : RO} {t : Int} {n : Nat} (h : Rel P X t n) : Pos X.fL := fun f hf x hx => (h.flows.ok f hf).size x hx
end Go.Proofs
end
section
namespace Go.Proofs
open Go.Ab
def szAll (F : List Fw) : Int := (F.map fun f => sumS f.fQ.fL).sum
theorem szAll_app (p r : List Fw) : szAll (p ++ r) = szAll p + szAll r := by simp [szAll]
theorem szAll_cons (f : Fw) (r : List Fw) : szAll (f :: r) = sumS f.fQ.fL + szAll r := by simp [szAll]
theorem szAll_nn {F : List Fw} (h : Pos F) : 0 ≤ szAll F := by
 induction F with
 | nil => simp [szAll]
 | cons f r ih =>
   rw [szAll_cons]
   have := sumS_nn (h f (.head _))
   have := ih fun g hg => h g (.tail _ hg)
   omega
theorem szAll_pop {F : List Fw} {k : Nat} (hk : k < F.length) {r : List It} (er : F[k].fQ.fL = hd F[k] :: r) : szAll (F.set k (withQ F[k] (rpop F[k].fQ))) = szAll F - (hd F[k]).fj := by
 obtain ⟨p, q, e, _, hs⟩ := split_at hk
 have e2 : szAll F = szAll p + (sumS F[k].fQ.fL + szAll q) := by
  conv => lhs; rw [e]
  rw [szAll_app, szAll_cons]
 have e3 : sumS F[k].fQ.fL = (hd F[k]).fj + sumS r := by
  conv => lhs; rw [er]
  rw [sumS_cons]
 rw [hs, szAll_app, szAll_cons, e2, e3]
 simp only [withQ, rpop, er, List.drop_succ_cons, List.drop_zero]
 omega
theorem szAll_hd {F : List Fw} (h : Pos F) {f : Fw} (hf : f ∈ F) (hne : f.fQ.fL ≠ []) : (hd f).fj ≤ szAll F := by
 obtain ⟨k, hk, rfl⟩ := List.mem_iff_getElem.1 hf
 have er : ∃ r, F[k].fQ.fL = hd F[k] :: r := by
  unfold hd
  cases hl : F[k].fQ.fL with
  | nil => exact absurd hl hne
  | cons x r => exact ⟨r, rfl⟩
 obtain ⟨r, er⟩ := er
 have h1 := szAll_pop hk er
 have h2 := szAll_nn (h.pop hk)
 omega
theorem tr_all {g : Int} {F F' : List Fw} {so so' cr cr' : Int} {out : List Sn} (h : Tr g F so cr out F' so' cr') (hp : Pos F) (hs : szAll F ≤ cr) : ∀ f ∈ F', f.fQ.fL = [] := by
 induction h with
 | nil he =>
   rcases he with he | ⟨f, hf, h1, h2⟩
   ·exact he
   ·have := szAll_hd hp hf h1
    omega
 | snd k hk hw _ _ _ ih =>
   obtain ⟨r, er⟩ := hd_of hw
   exact ih (hp.pop hk) (by rw [szAll_pop hk er]; omega)
 | pic k hk hw _ _ _ ih =>
   obtain ⟨r, er⟩ := hd_of hw
   exact ih (hp.pop hk) (by rw [szAll_pop hk er]; omega)
theorem tr_len {g : Int} {F F' : List Fw} {so so' cr cr' : Int} {out : List Sn} (h : Tr g F so cr out F' so' cr') (hp : Pos F) (hs : szAll F ≤ cr) : out.length = tot F := by
 have h1 := out_len h
 have h2 := tr_all h hp hs
 have h3 : tot F' = 0 := by
  unfold tot
  rw [List.sum_eq_zero_iff_forall_eq_nat]
  intro y hy
  obtain ⟨f, hf, rfl⟩ := List.mem_map.1 hy
  rw [h2 f hf]; rfl
 omega
theorem szAll_le {P : Tf} {X : RO} {t : Int} {n : Nat} (h : Rel P X t n) : szAll X.fL ≤ X.fk * n := by
 have hb := h.bytes
 have key : ∀ F : List Fw, (∀ f ∈ F, sumS f.fQ.fL ≤ X.fk) → szAll F ≤ X.fk * F.length := by
  intro F
  induction F with
  | nil => intro _; simp [szAll]
  | cons f r ih =>
    intro hF
    rw [szAll_cons, List.length_cons]
    have h1 := hF f (.head _)
    have h2 := ih fun g hg => hF g (.tail _ hg)
    rw [Int.natCast_add, Int.mul_add]
    omega
 have h1 := key X.fL fun f hf => by
  have := (h.flows.ok f hf).sum
  rw [(h.qcfg f hf).2] at this
  exact this
 have h2 : X.fk * X.fL.length ≤ X.fk * n := Int.mul_le_mul_of_nonneg_left (by have := h.many; omega) (by omega)
 omega
end Go.Proofs
end
section
namespace Go.Proofs
open Go.Ab

theorem rd_len (l : List UInt8) (e : Int) : gak (Tk.mk (ofB l) e) = some (l.length : Int) := by
 unfold gak; rw [lenS_of]
theorem rest_d (l : List UInt8) : gQ (Tk.mk (ofB l) 0) = some (ofB l, Tk.mk (ofB []) 0) := by
 unfold gQ
 rw [rd_len]
 simp only [Ld]
 rw [bytes_d, stp_ok (Nat.le_refl _)]
 simp
theorem live_text : gM (Tt.mk false 96 1 0 0 [] false 0 ⟨#[]⟩ ⟨#[120]⟩ 0) = some (ofB [128, 96, 0, 1, 0, 0, 0, 0, 0, 0, 0, 0, 120]) := by
 have e0 : appL [] [bitsOp .or .u8 (bitsOp .or .u8 (bitsOp .or .u8 128 0) 0) (cvtI .u8 (lenL ([] : List Int))), bitsOp .or .u8 0 96] = nums [128, 96] := by decide
 have e1 : gj (nums [128, 96]) [1] = some (nums [128, 96, 0, 1]) := by
  have := u16w (x := 1) (by omega) (by omega) [128, 96] (by decide)
  rw [cvtu16 (by omega) (by omega)] at this
  rw [this]; congr 1
 have e2 : gl (nums [128, 96, 0, 1]) [0, 0] = some (nums [128, 96, 0, 1, 0, 0, 0, 0, 0, 0, 0, 0]) := by
  rw [u32w_d (ss := [0, 0]) (by decide) (by decide) _ (by decide)]; congr 1
 have e3 : gl (nums [128, 96, 0, 1, 0, 0, 0, 0, 0, 0, 0, 0]) [] = some (nums [128, 96, 0, 1, 0, 0, 0, 0, 0, 0, 0, 0]) := by
  rw [u32w_d (ss := []) (by simp) (by decide) _ (by decide)]; congr 1
 have e4 : gp (nums [128, 96, 0, 1, 0, 0, 0, 0, 0, 0, 0, 0]) [⟨#[120]⟩] = some (nums [128, 96, 0, 1, 0, 0, 0, 0, 0, 0, 0, 0, 120]) := put_d [120] (by decide) (by decide) _ (by decide)
 unfold gM
 simp only [gaU, show ltI 0 0 = false from rfl, cond_false, Ld]
 rw [Lf (show AppB 0 2 1 by decide), e0, e1]
 simp only [Ld, e2, e3, flC_go, e4]
 rw [loopF_eq]
 simp only [gM.loop2, show ltI 0 0 = false from rfl, cond_false, Ld, flC_go]
 rw [Lf (show TextB _ by decide), str_nums]
theorem live_parse : ∃ p, gaB (ofB [128, 96, 0, 1, 0, 0, 0, 0, 0, 0, 0, 0, 120]) = some (p, 0) ∧ p.fB = ofB [120] ∧ p.fH = 96 := by
 unfold gaB
 rw [show ltI 1500 (lenS (ofB [128, 96, 0, 1, 0, 0, 0, 0, 0, 0, 0, 0, 120])) = false by rw [lenS_of]; rfl]
 simp only [cond_false, gaR, Ld, u8_d, u16_d, u32_d, gaa]
 simp only [show stp 1 [128, 96, 0, 1, 0, 0, 0, 0, 0, 0, 0, 0, 120] 0 = ([128], [96, 0, 1, 0, 0, 0, 0, 0, 0, 0, 0, 120], 0) from rfl, show stp 1 [96, 0, 1, 0, 0, 0, 0, 0, 0, 0, 0, 120] 0 = ([96], [0, 1, 0, 0, 0, 0, 0, 0, 0, 0, 120], 0) from rfl,
  show stp 2 [0, 1, 0, 0, 0, 0, 0, 0, 0, 0, 120] 0 = ([0, 1], [0, 0, 0, 0, 0, 0, 0, 0, 120], 0) from rfl, show stp 4 [0, 0, 0, 0, 0, 0, 0, 0, 120] 0 = ([0, 0, 0, 0], [0, 0, 0, 0, 120], 0) from rfl, show stp 4 [0, 0, 0, 0, 120] 0 = ([0, 0, 0, 0], [120], 0) from rfl,
  show val [128] = 128 from rfl, show val [96] = 96 from rfl]
 rw [Lf (show Under (eqI 0 0) true (NonN 6) from fun _ => by unfold NonN; omega), show pickB (eqI 0 0) (neI (shrI .u8 128 6) 2) false = false by decide]
 simp only [cond_false]
 rw [loopF_eq]
 simp only [gaB.loop1]
 rw [show ltI 0 (bitsOp .and .u8 128 15) = false by decide]
 simp only [cond_false, Ld, flC_go]
 rw [show ltI 0 (bitsOp .and .u8 128 16) = false by decide]
 simp only [cond_false, Ld, flC_go, rest_d, show pickB (eqI 0 0) (ltI 0 (bitsOp .and .u8 128 32)) false = false by decide, show neI 0 0 = false from rfl]
 exact ⟨_, rfl, rfl, by decide⟩
theorem live_vp : gah (Tv.mk false false 0 (-1) false (-1) (-1) false (-1)) = some (ofB [0]) := by
 unfold gah
 simp only [gaL, Ld]
 rw [show pickB (pickB (pickB (leqI 0 (-1)) true (leqI 0 (-1))) true (leqI 0 (-1))) true (leqI 0 (-1)) = false by decide]
 simp only [gaS, cond_false, Ld, show notB false = true from rfl, cond_true]
 rw [Lf (show AppB 0 1 1 by decide), show appL [] [bitsOp .or .u8 (bitsOp .or .u8 (bitsOp .or .u8 0 0) 0) (cvtI .u8 (bitsOp .and .i64 0 7))] = nums [0] by decide, Lf (show TextB _ by decide), str_nums]
theorem live_rtcp : gaz [(RtcpPacket.c0 (Tw.mk 1 2))] = some (ofB [129, 206, 0, 2, 0, 0, 0, 1, 0, 0, 0, 2]) := by
 have e1 : gaV [] (RtcpPacket.c0 (Tw.mk 1 2)) = some (nums [0, 0, 0, 1, 0, 0, 0, 2]) := by
  unfold gaV gaK RtcpPacket.by
  simp only
  have := u32w_d (ss := [1, 2]) (by decide) (by decide) [] (by decide)
  rw [show nums [] = [] from rfl] at this
  rw [this]
  simp only [Ld]
  congr 1
 have e2 : gC (nums [0, 0, 0, 1, 0, 0, 0, 2]) 4 = some (nums [0, 0, 0, 1, 0, 0, 0, 2]) := by
  unfold gC
  rw [loopF_eq]
  simp only [gC.loop1, gS, Ld]
  rw [Lf (show NonZ (maxI 4 1) by decide), show neI (remI (lenL (nums [0, 0, 0, 1, 0, 0, 0, 2])) (maxI 4 1)) 0 = false by decide]
  simp only [cond_false, Ld, flC_go]
 have e3 : gj (nums [129, 206]) [cvtI .u16 (quoI .i64 (lenL (nums [0, 0, 0, 1, 0, 0, 0, 2])) 4)] = some (nums [129, 206, 0, 2]) := by
  rw [show quoI .i64 (lenL (nums [0, 0, 0, 1, 0, 0, 0, 2])) 4 = 2 by decide, u16w (x := 2) (by omega) (by omega) [129, 206] (by decide)]
  congr 1
 have e4 : gp (nums [129, 206, 0, 2]) [ofB [0, 0, 0, 1, 0, 0, 0, 2]] = some (nums [129, 206, 0, 2, 0, 0, 0, 1, 0, 0, 0, 2]) := put_d [0, 0, 0, 1, 0, 0, 0, 2] (by decide) (by decide) _ (by decide)
 unfold gaz
 rw [loopF_eq]
 simp only [gaz.loop1]
 rw [show ltI 0 (lenL [(RtcpPacket.c0 (Tw.mk 1 2))]) = true from rfl, Lf (show InB 0 (lenL [(RtcpPacket.c0 (Tw.mk 1 2))]) from ⟨by omega, by show (0 : Int) < 1; omega⟩), show nthI [(RtcpPacket.c0 (Tw.mk 1 2))] 0 = RtcpPacket.c0 (Tw.mk 1 2) from rfl]
 simp only [cond_true, RtcpPacket.by, gaI, Ld, e1, e2]
 rw [Lf (show AppB (lenL ([] : List Int)) 2 1 by decide)]
 simp only [gS, Ld]
 rw [Lf (show NonZ 4 by decide), show appL [] [bitsOp .or .u8 128 (bitsOp .and .u8 1 31), 206] = nums [129, 206] by decide, e3]
 simp only [Ld]
 rw [Lf (show TextB _ by decide), str_nums, e4]
 simp only [Ld]
 rw [loopF_eq]
 simp only [gaz.loop1]
 rw [show ltI (addI .i64 0 1) (lenL [(RtcpPacket.c0 (Tw.mk 1 2))]) = false by decide]
 simp only [cond_false, Ld, flC_go]
 rw [Lf (show TextB _ by decide), str_nums]
theorem live_ok : gaW = some true := by
 obtain ⟨p, h1, h2, h3⟩ := live_parse
 unfold gaW
 rw [live_text]
 simp only [Ld, h1, gaF, live_vp, live_rtcp, h2, h3, Option.getD_some, Option.isSome_some]
 rw [show eqS (ofB [120]) ⟨#[120]⟩ = true by rw [show (⟨#[120]⟩ : ByteArray) = ofB [120] from rfl, eqS_b]; simp, lenS_of, lenS_of]
 rw [Lf (show Under _ _ True from fun _ => trivial), Lf (show Under _ _ True from fun _ => trivial), Lf (show Under _ _ _ from fun _ => ⟨by omega, by show (1 : Int) < 12; omega⟩)]
 decide
end Go.Proofs
end
