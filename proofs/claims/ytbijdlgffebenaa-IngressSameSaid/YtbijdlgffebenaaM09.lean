/- A byte off the front, in both readers; the two readers of descriptors say the same. No condition. -/
import Derived.Test.YtbijdlgffebenaaM01
import Derived.Test.YtbijdlgffebenaaOxD
import Derived.Test.YtbijdlgffebenaaM12
import Derived.Test.YtbijdlgffebenaaTs
import Derived.Test.YtbijdlgffebenaaM02
import Derived.Test.YtbijdlgffebenaaM08
section
namespace Go.Proofs
open Go.Ab

theorem wrapU8 (n : Int) : IntKind.u8.wrap n = n % 256 := by simp [IntKind.wrap, IntKind.bits, IntKind.signed]
theorem wrapU16 (n : Int) : IntKind.u16.wrap n = n % 65536 := by simp [IntKind.wrap, IntKind.bits, IntKind.signed]
theorem wrapU32 (n : Int) : IntKind.u32.wrap n = n % 4294967296 := by simp [IntKind.wrap, IntKind.bits, IntKind.signed]
theorem wrapU64 (n : Int) : IntKind.u64.wrap n = n % 18446744073709551616 := by simp [IntKind.wrap, IntKind.bits, IntKind.signed]

/-- A byte off the front: the byte, what is left, the error. -/
def u8P (s : ByteArray) (e : Int) : Int × ByteArray × Int :=
  if e ≠ 0 then (0, s, e) else if lenS s < 1 then (0, ⟨#[]⟩, 1) else (idxS s 0, cutS s 1 (lenS s), 0)

theorem idxS_r (s : ByteArray) (n : Int) : 0 ≤ idxS s n ∧ idxS s n < 256 := by
  unfold idxS
  have := (s.data.toList.getD n.toNat 0).toNat_lt
  omega
theorem u8P_r (s : ByteArray) (e : Int) : 0 ≤ (u8P s e).1 ∧ (u8P s e).1 < 256 := by
  unfold u8P
  split
  · exact ⟨Int.le_refl _, by show (0 : Int) < 256; omega⟩
  · split
    · exact ⟨Int.le_refl _, by show (0 : Int) < 256; omega⟩
    · exact idxS_r s 0

theorem cut1 {s : ByteArray} (h : ¬ lenS s < 1) : (cutS s 0 1).data.toList = [s.data.toList.getD 0 0] := by
  unfold lenS at h
  have hs : 0 < s.data.toList.length := by
    have : s.size = s.data.toList.length := by rw [Array.length_toList]; rfl
    omega
  unfold cutS
  have e1 : (s.extract (0 : Int).toNat (1 : Int).toNat).data.toList = (s.data.toList.drop 0).take 1 := by
    simp [ByteArray.data_extract]
  rw [e1]
  match hl : s.data.toList, hs with
  | a :: r, _ => simp

theorem numsOf_cut1 {s : ByteArray} (h : ¬ lenS s < 1) : numsOf (cutS s 0 1) = [idxS s 0] := by
  unfold numsOf
  rw [cut1 h]
  simp [idxS]
theorem lenS_cut1 {s : ByteArray} (h : ¬ lenS s < 1) : lenS (cutS s 0 1) = 1 := by
  have := congrArg List.length (cut1 h)
  simp only [Array.length_toList, List.length_cons, List.length_nil] at this
  show ((cutS s 0 1).data.size : Int) = 1
  omega
theorem idxS_cut1 {s : ByteArray} (h : ¬ lenS s < 1) : idxS (cutS s 0 1) 0 = idxS s 0 := by
  unfold idxS
  rw [cut1 h]; rfl

theorem obytes1 (s : ByteArray) (e : Int) : gOctetReaderBytes ⟨s, e⟩ 1 = some (if e ≠ 0 then (⟨#[]⟩, ⟨s, e⟩) else if lenS s < 1 then (⟨#[]⟩, ⟨⟨#[]⟩, 1⟩) else (cutS s 0 1, ⟨cutS s 1 (lenS s), 0⟩)) := by
  unfold gOctetReaderBytes gOctetReaderFail
  simp only [neI_d]
  by_cases he : e = 0
  · subst he
    rw [show (decide ((0 : Int) ≠ 0)) = false from rfl, cond_false, if_neg (by simp), show ltI 1 0 = false from rfl, cond_false, ltI_d]
    by_cases hl : lenS s < 1
    · rw [decide_eq_true hl, cond_true, if_pos hl]; rfl
    · rw [decide_eq_false hl, cond_false, if_neg hl, need_t ⟨by decide, by omega, by omega⟩, need_t ⟨by omega, by omega, by omega⟩]
  · rw [decide_eq_true he, cond_true, if_pos he]

theorem onum_nil (r : ByteArray × OctetReader) (h : r.1 = ⟨#[]⟩) : loopF (gOctetReaderNum.loop1 r) (0, 0) = some (.go 0) := by
  rw [loopF_eq]
  unfold gOctetReaderNum.loop1
  rw [h]; rfl
theorem onum_one (r : ByteArray × OctetReader) {b : Int} (h : numsOf r.1 = [b]) (h0 : 0 ≤ b) (h1 : b < 256) : loopF (gOctetReaderNum.loop1 r) (0, 0) = some (.go b) := by
  have s1 : gOctetReaderNum.loop1 r (0, 0) = some (.go (1, b)) := by
    unfold gOctetReaderNum.loop1
    rw [h]
    have e1 : ltI (0 : Int) (lenL [b]) = true := rfl
    simp only [e1, cond_true]
    rw [need_t (show InB 0 (lenL [b]) from ⟨Int.le_refl _, by show (0 : Int) < 1; omega⟩), need_t (show NonN 8 by decide)]
    have e2 : bitsOp .or .u64 (shlI .u64 0 8) (cvtI .u64 (nthI [b] 0)) = b := by
      have hn : nthI [b] 0 = b := rfl
      have hs : shlI .u64 0 8 = 0 := by decide
      rw [hn, hs]
      unfold cvtI bitsOp
      simp only [wrapU64]
      rw [Int.emod_eq_of_lt h0 (by omega)]
      show (((BitVec.ofInt 64 0 ||| BitVec.ofInt 64 b).toNat : Nat) : Int) % 18446744073709551616 = b
      have : BitVec.ofInt 64 0 ||| BitVec.ofInt 64 b = BitVec.ofInt 64 b := by simp
      rw [this, BitVec.toNat_ofInt]
      omega
    rw [e2]; rfl
  rw [loopF_eq, s1]
  dsimp only
  rw [loopF_eq]
  unfold gOctetReaderNum.loop1
  rw [h]; rfl

theorem ou8 (s : ByteArray) (e : Int) : gOctetReaderU8 ⟨s, e⟩ = some ((u8P s e).1, ⟨(u8P s e).2.1, (u8P s e).2.2⟩) := by
  unfold gOctetReaderU8 gOctetReaderNum
  have hm : minI (maxI 1 1) 8 = 1 := by decide
  rw [hm, obytes1, bind_so]
  have c0 : cvtI .u8 0 = 0 := by decide
  unfold u8P
  split
  · rw [onum_nil _ rfl]; simp [c0]
  · split
    · rw [onum_nil _ rfl]; simp [c0]
    · rename_i hl
      have hr := idxS_r s 0
      rw [onum_one _ (numsOf_cut1 hl) hr.1 hr.2]
      simp only [bind_so, flC_go]
      rw [show cvtI .u8 (idxS s 0) = idxS s 0 from by unfold cvtI; rw [wrapU8]; omega]

theorem rvalue_nil (x : ByteArray) (h : x = ⟨#[]⟩) : gRef02Value x = some 0 := by
  subst h
  unfold gRef02Value
  rw [loopF_eq]; rfl
theorem rvalue_one {s : ByteArray} (h : ¬ lenS s < 1) : gRef02Value (cutS s 0 1) = some (idxS s 0) := by
  have hr := idxS_r s 0
  unfold gRef02Value
  have s1 : gRef02Value.loop1 (cutS s 0 1) (0, 0) = some (.go (1, idxS s 0)) := by
    unfold gRef02Value.loop1
    rw [lenS_cut1 h]
    have e1 : ltI (0 : Int) 1 = true := rfl
    simp only [e1, cond_true]
    rw [need_t (show InB 0 1 by decide), idxS_cut1 h]
    have e2 : addI .u64 (mulI .u64 0 256) (cvtI .u64 (idxS s 0)) = idxS s 0 := by
      unfold addI mulI cvtI
      simp only [wrapU64]
      omega
    rw [e2]; rfl
  have s2 : gRef02Value.loop1 (cutS s 0 1) (1, idxS s 0) = some (.out (.go (idxS s 0))) := by
    unfold gRef02Value.loop1
    rw [lenS_cut1 h]; rfl
  rw [loopF_eq, s1]
  dsimp only
  rw [loopF_eq, s2]
  rfl

theorem rtake (s : ByteArray) (e : Int) : gRef02Take ⟨s, e⟩ 1 = some (⟨(u8P s e).2.1, (u8P s e).2.2⟩, (u8P s e).1) := by
  unfold gRef02Take gRef02Bytes
  have hm : minI (maxI 1 1) 8 = 1 := by decide
  rw [hm]
  simp only [neI_d]
  unfold u8P
  by_cases he : e = 0
  · subst he
    rw [show (decide ((0 : Int) ≠ 0)) = false from rfl, cond_false, if_neg (by simp), show ltI 1 0 = false from rfl, cond_false, ltI_d]
    by_cases hl : lenS s < 1
    · rw [decide_eq_true hl, cond_true, if_pos hl, bind_so, rvalue_nil _ rfl]; rfl
    · rw [decide_eq_false hl, cond_false, if_neg hl, need_t ⟨by omega, by omega, by omega⟩, need_t ⟨by decide, by omega, by omega⟩, bind_so, rvalue_one hl]; rfl
  · rw [decide_eq_true he, cond_true, if_pos he, bind_so, rvalue_nil _ rfl]; rfl

theorem byteD {p : Int → Prop} (h : ∀ n : Fin 256, p (n.val : Int)) {b : Int} (h0 : 0 ≤ b) (h1 : b < 256) : p b := by
  have := h ⟨b.toNat, by omega⟩
  simp only at this
  rwa [Int.toNat_of_nonneg h0] at this
end Go.Proofs
end
section
namespace Go.Proofs
open Go.Ab

def sizeN : List Antiphonref10Unit → Int
  | [] => 0
  | u :: r => lenS u.fText + sizeN r
theorem lenS_nn (s : ByteArray) : 0 ≤ lenS s := by unfold lenS; omega
theorem sizeN_nn : ∀ us, 0 ≤ sizeN us
  | [] => by simp [sizeN]
  | u :: r => by have := sizeN_nn r; have := lenS_nn u.fText; unfold sizeN; omega
theorem sizeN_app (a b : List Antiphonref10Unit) : sizeN (a ++ b) = sizeN a + sizeN b := by
  induction a with
  | nil => simp [sizeN]
  | cons u r ih => simp only [List.cons_append, sizeN, ih]; omega

def sizeI (us : List Antiphonref10Unit) (s : Int × Int) : Prop := 0 ≤ s.1 ∧ s.1 ≤ lenL us ∧ s.2 = sizeN (us.take s.1.toNat)
theorem take_snoc (us : List Antiphonref10Unit) (i : Int) (h0 : 0 ≤ i) (h : i < lenL us) : us.take (i + 1).toNat = us.take i.toNat ++ [nthI us i] := by
  unfold lenL at h
  have e : (i + 1).toNat = i.toNat + 1 := by omega
  rw [e, List.take_succ_eq_append_getElem (by omega)]
  unfold nthI
  rw [List.getD_eq_getElem?_getD, List.getElem?_eq_getElem (by omega)]
  rfl
theorem sizeN_take (us : List Antiphonref10Unit) (n : Nat) : sizeN (us.take n) ≤ sizeN us := by
  have h := sizeN_app (us.take n) (us.drop n)
  rw [List.take_append_drop] at h
  have := sizeN_nn (us.drop n)
  omega
theorem size_round (us : List Antiphonref10Unit) (hb : sizeN us < 9223372036854775808) (hl : lenL us < 9223372036854775807) (s : Int × Int) (hI : sizeI us s) :
    RoundP (sizeI us) (fun t : Fl Int Int => t = .go (sizeN us)) (fun s => (lenL us - s.1).toNat) s (gFrameFrameSize.loop1 ⟨us⟩ s) := by
  obtain ⟨i, n⟩ := s
  obtain ⟨h0, h1, h2⟩ := hI
  simp only at h0 h1 h2
  unfold gFrameFrameSize.loop1
  dsimp only
  by_cases hc : i < lenL us
  case neg =>
    rw [ltI_d, decide_eq_false hc, cond_false]
    show Fl.go n = Fl.go _
    rw [h2, List.take_of_length_le (by unfold lenL at hc; omega)]
  rw [show ltI i (lenL us) = true from decide_eq_true hc, cond_true, need_t (show InB i (lenL us) from ⟨h0, hc⟩)]
  have e := take_snoc us i h0 hc
  have e2 := sizeN_app (us.take i.toNat) [nthI us i]
  rw [← e] at e2
  have e3 : sizeN [nthI us i] = lenS (nthI us i).fText := by simp [sizeN]
  have e4 := sizeN_take us (i + 1).toNat
  have e5 := sizeN_nn (us.take i.toNat)
  have e6 := lenS_nn (nthI us i).fText
  rw [addI_n (a := i) (by omega) (by omega), addI_n (a := n) (by omega) (by omega)]
  exact ⟨⟨by dsimp only; omega, by dsimp only; omega, by dsimp only; omega⟩, by dsimp only; omega⟩
theorem size_eq (us : List Antiphonref10Unit) (hb : sizeN us < 9223372036854775808) (hl : lenL us < 9223372036854775807) : gFrameFrameSize ⟨us⟩ = some (sizeN us) := by
  unfold gFrameFrameSize
  have hnn : 0 ≤ lenL us := by unfold lenL; omega
  obtain ⟨t, ht, rfl⟩ := loop_ends (sizeI us) _ _ (size_round us hb hl) (0, 0) ⟨by simp, by simpa using hnn, by simp [sizeN]⟩
  rw [ht]; rfl

theorem open_eq (m : FrameMaker) : gFrameMakerOpen m = some (lenL m.fOpen.fUnits) := rfl
theorem frame_check (c : FrameConfig) (h : 1 ≤ c.fBytes ∧ c.fBytes ≤ 1048576 ∧ 1 ≤ c.fUnits ∧ c.fUnits ≤ 1024 ∧ 0 ≤ c.fWait ∧ c.fWait ≤ 1099511627776) : gFrameConfigCheck c = some 0 := by
  unfold gFrameConfigCheck
  simp only [pickB_or, ltI_d]
  have e : (decide (c.fBytes < 1) || decide (1048576 < c.fBytes) || decide (c.fUnits < 1) || decide (1024 < c.fUnits) || decide (c.fWait < 0) || decide (1099511627776 < c.fWait)) = false := by
    simp; omega
  rw [e]; rfl
theorem frame_new (c : FrameConfig) (h : 1 ≤ c.fBytes ∧ c.fBytes ≤ 1048576 ∧ 1 ≤ c.fUnits ∧ c.fUnits ≤ 1024 ∧ 0 ≤ c.fWait ∧ c.fWait ≤ 1099511627776) : gFrameNew c = some (some (.mk c ⟨[]⟩ 0 0), 0) := by
  unfold gFrameNew
  rw [frame_check c h]; rfl

end Go.Proofs
end
section
namespace Go.Proofs
open Go.Ab
noncomputable def gRef11Key (x0 : Antiphonref04Desc) (x1 : ByteArray) : Option Bool :=
  need (Under (pickB (pickB x0.fStart (eqI x0.fPart 0) false) (ltI 0 (lenS x1)) false) true (InB 0 (lenS x1))) <|
  need (Under (pickB (pickB x0.fStart (eqI x0.fPart 0) false) (ltI 0 (lenS x1)) false) true (NonZ 2)) <|
  some (pickB (pickB (pickB x0.fStart (eqI x0.fPart 0) false) (ltI 0 (lenS x1)) false) (eqI (remI (idxS x1 0) 2) 0) false)

noncomputable def gRef11Find.loop1 (x0 : List Antiphonref11Came) (x1 : Int) (s1 : Int) : Option (Fl Int (Fl Unit Antiphonref03Packet)) :=
  bif (ltI s1 (lenL x0)) then (
    need (InB s1 (lenL x0)) <|
    bif (eqI ((nthI x0 s1).fAt) x1) then (
      some (.out (.out ((nthI x0 s1).fP)))
    ) else (
      some (.go (addI .i64 s1 1))
    )
  ) else (
    some (.out (.go ()))
  )

noncomputable def gRef11Find (x0 : List Antiphonref11Came) (x1 : Int) : Option Antiphonref03Packet :=
  ((loopF (gRef11Find.loop1 x0 x1) 0).bind fun f => flC f fun (_v1 : Unit) =>
    some (Antiphonref03Packet.mk false 0 0 0 0 [] false 0 ⟨#[]⟩ ⟨#[]⟩ 0)
  )

noncomputable def gRef11Unit (x0 : Antiphonref11Source) (x1 : Antiphonref09Thing) : Option (Antiphonref11Source × Antiphonref10Unit) :=
  ((gRef11Find x0.fL x1.fAt)).bind fun r1 =>
  ((gRef08Time x0.fClock (cvtI .i64 r1.fTime))).bind fun r2 =>
  ((gRef04Parse r1.fPayload)).bind fun r3 =>
  ((
    bif (pickB x0.fMaker.fVideo (eqI r3.2.2 0) false) then (
      ((gRef11Key r3.1 r3.2.1)).bind fun r4 =>
      some (.go (Antiphonref10Unit.mk x1.fAt r2.2 (pickB r1.fMarker (neS r1.fPayload ⟨#[]⟩) false) (pickB r3.1.fStart (eqI r3.1.fPart 0) false) r4 r1.fPayload x1.fTick))
    ) else (
      some (.go (Antiphonref10Unit.mk x1.fAt r2.2 (pickB r1.fMarker (neS r1.fPayload ⟨#[]⟩) false) false false r1.fPayload x1.fTick))
    )
    : Option (Fl Antiphonref10Unit (Antiphonref11Source × Antiphonref10Unit))).bind fun f => flC f fun (v1 : Antiphonref10Unit) =>
    some ((Antiphonref11Source.mk x0.fSeq r2.1 x0.fOrder x0.fMaker x0.fL x0.fBad x0.fKeys), v1)
  )

noncomputable def gRef11Frames.loop1 (x1 : List Antiphonref09Thing) (s1 : Int × List (List Antiphonref10Unit) × Antiphonref11Source) : Option (Fl (Int × List (List Antiphonref10Unit) × Antiphonref11Source) (Fl (List (List Antiphonref10Unit) × Antiphonref11Source) (Antiphonref11Source × List (List Antiphonref10Unit)))) :=
  bif (ltI s1.1 (lenL x1)) then (
    need (InB s1.1 (lenL x1)) <|
    ((gRef11Unit s1.2.2 (nthI x1 s1.1))).bind fun r1 =>
    ((gRef10Put r1.1.fMaker r1.2)).bind fun r2 =>
    bif (ltI 0 (lenL r2.2)) then (
      need (AppB (lenL s1.2.1) 1 24) <|
      need (InB 0 (lenL r2.2)) <|
      bif (nthI r2.2 0).fKey then (
        some (.go ((addI .i64 s1.1 1), (appL s1.2.1 [r2.2]), (Antiphonref11Source.mk r1.1.fSeq r1.1.fClock r1.1.fOrder r2.1 r1.1.fL r1.1.fBad (addI .i64 r1.1.fKeys 1))))
      ) else (
        some (.go ((addI .i64 s1.1 1), (appL s1.2.1 [r2.2]), (Antiphonref11Source.mk r1.1.fSeq r1.1.fClock r1.1.fOrder r2.1 r1.1.fL r1.1.fBad r1.1.fKeys)))
      )
    ) else (
      some (.go ((addI .i64 s1.1 1), s1.2.1, (Antiphonref11Source.mk r1.1.fSeq r1.1.fClock r1.1.fOrder r2.1 r1.1.fL r1.1.fBad r1.1.fKeys)))
    )
  ) else (
    some (.out (.go (s1.2.1, s1.2.2)))
  )

noncomputable def gRef11Frames (x0 : Antiphonref11Source) (x1 : List Antiphonref09Thing) : Option (Antiphonref11Source × List (List Antiphonref10Unit)) :=
  ((loopF (gRef11Frames.loop1 x1) (0, [], x0)).bind fun f => flC f fun (v1 : List (List Antiphonref10Unit) × Antiphonref11Source) =>
    some (v1.2, v1.1)
  )

end Go.Proofs
end
