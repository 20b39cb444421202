/- The two readers of descriptors say the same. No condition. -/
import Derived.Test.YtbijdlgffebenaaJb
import Derived.Test.YtbijdlgffebenaaM12
import Derived.Test.YtbijdlgffebenaaFz
import Derived.Test.YtbijdlgffebenaaM11
import Derived.Test.YtbijdlgffebenaaM09
section
namespace Go.Proofs
open Go.Ab

theorem pb (s : ByteArray) (e : Int) {p : Int → Prop} (h : ∀ n : Fin 256, p (n.val : Int)) : p (u8P s e).1 := byteD h (u8P_r s e).1 (u8P_r s e).2

theorem p64 (s : ByteArray) (e : Int) : cvtI .i64 (u8P s e).1 = (u8P s e).1 := by
  have := u8P_r s e
  exact wrap64_of (by omega) (by omega)
set_option maxRecDepth 100000 in
theorem pA32 (s : ByteArray) (e : Int) : eqI (remI (quoI .u64 (u8P s e).1 32) 2) 1 = ltI 0 (bitsOp .and .u8 (u8P s e).1 32) := pb s e (p := fun b => eqI (remI (quoI .u64 b 32) 2) 1 = ltI 0 (bitsOp .and .u8 b 32)) (by decide)
set_option maxRecDepth 100000 in
theorem pA16 (s : ByteArray) (e : Int) : eqI (remI (quoI .u64 (u8P s e).1 16) 2) 1 = ltI 0 (bitsOp .and .u8 (u8P s e).1 16) := pb s e (p := fun b => eqI (remI (quoI .u64 b 16) 2) 1 = ltI 0 (bitsOp .and .u8 b 16)) (by decide)
set_option maxRecDepth 100000 in
theorem pA8 (s : ByteArray) (e : Int) : cvtI .i64 (remI (u8P s e).1 8) = cvtI .i64 (bitsOp .and .u8 (u8P s e).1 7) := pb s e (p := fun b => cvtI .i64 (remI b 8) = cvtI .i64 (bitsOp .and .u8 b 7)) (by decide)
set_option maxRecDepth 100000 in
theorem pB128 (s : ByteArray) (e : Int) : eqI (quoI .i64 (u8P s e).1 128) 1 = ltI 0 (bitsOp .and .u8 (u8P s e).1 128) := pb s e (p := fun b => eqI (quoI .i64 b 128) 1 = ltI 0 (bitsOp .and .u8 b 128)) (by decide)
set_option maxRecDepth 100000 in
theorem pB64 (s : ByteArray) (e : Int) : eqI (remI (quoI .i64 (u8P s e).1 64) 2) 1 = ltI 0 (bitsOp .and .u8 (u8P s e).1 64) := pb s e (p := fun b => eqI (remI (quoI .i64 b 64) 2) 1 = ltI 0 (bitsOp .and .u8 b 64)) (by decide)
set_option maxRecDepth 100000 in
theorem pB48 (s : ByteArray) (e : Int) : ltI 0 (remI (quoI .i64 (u8P s e).1 16) 4) = ltI 0 (bitsOp .and .u8 (u8P s e).1 48) := pb s e (p := fun b => ltI 0 (remI (quoI .i64 b 16) 4) = ltI 0 (bitsOp .and .u8 b 48)) (by decide)
set_option maxRecDepth 100000 in
theorem pB32 (s : ByteArray) (e : Int) : eqI (remI (quoI .i64 (u8P s e).1 32) 2) 1 = ltI 0 (bitsOp .and .u8 (u8P s e).1 32) := pb s e (p := fun b => eqI (remI (quoI .i64 b 32) 2) 1 = ltI 0 (bitsOp .and .u8 b 32)) (by decide)
set_option maxRecDepth 100000 in
theorem pB16 (s : ByteArray) (e : Int) : eqI (remI (quoI .i64 (u8P s e).1 16) 2) 1 = ltI 0 (bitsOp .and .u8 (u8P s e).1 16) := pb s e (p := fun b => eqI (remI (quoI .i64 b 16) 2) 1 = ltI 0 (bitsOp .and .u8 b 16)) (by decide)
set_option maxRecDepth 100000 in
theorem pC64 (s : ByteArray) (e : Int) : cvtI .i64 (quoI .u64 (u8P s e).1 64) = cvtI .i64 (shrI .u8 (u8P s e).1 6) := pb s e (p := fun b => cvtI .i64 (quoI .u64 b 64) = cvtI .i64 (shrI .u8 b 6)) (by decide)
set_option maxRecDepth 100000 in
theorem pC31 (s : ByteArray) (e : Int) : cvtI .i64 (remI (u8P s e).1 32) = cvtI .i64 (bitsOp .and .u8 (u8P s e).1 31) := pb s e (p := fun b => cvtI .i64 (remI b 32) = cvtI .i64 (bitsOp .and .u8 b 31)) (by decide)

theorem picS (s t : ByteArray) (e f : Int) (h : ltI 127 (u8P s e).1 = true) :
    bitsOp .or .i64 (shlI .i64 (bitsOp .and .i64 (u8P s e).1 127) 8) (u8P t f).1 = addI .i64 (mulI .i64 (cvtI .i64 (subI .u64 (u8P s e).1 128)) 256) (u8P t f).1 := by
  have h' : 127 < (u8P s e).1 := by rw [ltI_d] at h; simpa using h
  have r1 := u8P_r s e
  have r2 := u8P_r t f
  generalize (u8P s e).1 = n at *
  generalize (u8P t f).1 = m at *
  have a1 : bitsOp .and .i64 n 127 = n % 128 := and_mask' (j := 7) (by omega) n 127 rfl
  have a2 : shlI .i64 (n % 128) 8 = (n % 128) * 256 := by
    show IntKind.i64.wrap ((n % 128) * 256) = _
    exact wrap64_of (by omega) (by omega)
  have a3 : subI .u64 n 128 = n - 128 := by unfold subI; rw [wrapU64]; omega
  have a4 : cvtI .i64 (n - 128) = n - 128 := wrap64_of (by omega) (by omega)
  have a5 : mulI .i64 (n - 128) 256 = (n - 128) * 256 := mulI_n (by omega) (by omega)
  rw [a1, a2, a3, a4, a5, addI_n (by omega) (by omega)]
  rw [or_add (j := 8) (by omega) (by show _ % 256 = 0; omega) r2.1 (by show m < 256; omega) (by omega)]
  omega

theorem nz {n : Int} (h : n ≠ 0) : NonZ n := h
theorem rbytes_rest (s : ByteArray) : gOctetReaderRest ⟨s, 0⟩ = some (cutS s 0 (lenS s), ⟨cutS s (lenS s) (lenS s), 0⟩) := by
  have hl : 0 ≤ lenS s := by unfold lenS; omega
  unfold gOctetReaderRest gOctetReaderLen gOctetReaderBytes
  dsimp only
  rw [bind_so, show neI 0 0 = false from rfl, cond_false, ltI_d, ltI_d, decide_eq_false (by omega), cond_false, decide_eq_false (by omega), cond_false, need_t ⟨by omega, by omega, by omega⟩, need_t ⟨by omega, by omega, by omega⟩]
  rfl
theorem cut_all (s : ByteArray) : cutS s 0 (lenS s) = s := by
  unfold cutS lenS
  simp [ByteArray.extract_zero_size]

theorem fin_eq (t : ByteArray) (e : Int) (d : Antiphonref04Desc) : ((gOctetReaderErr ⟨t, e⟩).bind fun r8 =>
      bif neI r8 0 then some ((Antiphonref04Desc.mk false false 0 0 false 0 0 false 0), (⟨#[]⟩ : ByteArray), r8)
      else (gOctetReaderRest ⟨t, e⟩).bind fun r9 => some (d, r9.1, 0)) =
    bif neI e 0 then some ((Antiphonref04Desc.mk false false 0 0 false 0 0 false 0), (⟨#[]⟩ : ByteArray), e) else some (d, t, 0) := by
  unfold gOctetReaderErr
  rw [bind_so]
  by_cases he : e = 0
  · subst he
    rw [rbytes_rest, bind_so, cut_all]
  · rw [neI_d, decide_eq_true he]; rfl

theorem z128 : ltI 0 (bitsOp .and .u8 0 128) = false := by decide
theorem z64 : ltI 0 (bitsOp .and .u8 0 64) = false := by decide
theorem z48 : ltI 0 (bitsOp .and .u8 0 48) = false := by decide
theorem y128 : eqI (quoI .i64 0 128) 1 = false := by decide
theorem y64 : eqI (remI (quoI .i64 0 64) 2) 1 = false := by decide
theorem y48 : ltI 0 (remI (quoI .i64 0 16) 4) = false := by decide

set_option maxHeartbeats 4000000 in
theorem parse_eq (s : ByteArray) : gVp8Parse s = gRef04Parse s := by
  unfold gVp8Parse gRef04Parse gOctetRead gVp8Plain
  simp only [bind_so, ou8, rtake, need_t (nz (show (32 : Int) ≠ 0 by decide)), need_t (nz (show (2 : Int) ≠ 0 by decide)), need_t (nz (show (16 : Int) ≠ 0 by decide)), need_t (nz (show (8 : Int) ≠ 0 by decide)),
    pA32, pA16, pA8]
  cases h1 : ltI 127 (u8P s 0).1
  all_goals simp only [cond_true, cond_false, bind_so, flC_go, p64]
  all_goals unfold gRef04Last gRef04Numbers
  all_goals simp only [need_t (nz (show (128 : Int) ≠ 0 by decide)), need_t (nz (show (64 : Int) ≠ 0 by decide)), need_t (nz (show (32 : Int) ≠ 0 by decide)), need_t (nz (show (2 : Int) ≠ 0 by decide)), need_t (nz (show (16 : Int) ≠ 0 by decide)), need_t (nz (show (4 : Int) ≠ 0 by decide)),
    need_t (show NonN 8 by decide), need_t (show NonN 6 by decide), pB128, pB64, pB48, pB32, pB16, gVp8DescPicture, bind_so, ou8, rtake, p64]
  · simp only [z128, z64, z48, y128, y64, y48, cond_false, bind_so, flC_go, fin_eq]
  · generalize (u8P s 0).2.1 = t1
    generalize (u8P s 0).2.2 = e1
    cases h2 : ltI 0 (bitsOp .and .u8 (u8P t1 e1).1 128) <;> cases h3 : ltI 127 (u8P (u8P t1 e1).2.1 (u8P t1 e1).2.2).1
    all_goals try rw [picS _ _ _ _ h3]
    all_goals simp only [cond_true, cond_false, bind_so, flC_go, ou8, rtake, p64]
    all_goals (
      cases h4 : ltI 0 (bitsOp .and .u8 (u8P t1 e1).1 64) <;> simp only [cond_true, cond_false, bind_so, flC_go, ou8, rtake] <;>
      cases h5 : ltI 0 (bitsOp .and .u8 (u8P t1 e1).1 48) <;> simp only [cond_true, cond_false, bind_so, flC_go, fin_eq, pA32, pC64, pC31] <;>
      cases h6 : ltI 0 (bitsOp .and .u8 (u8P t1 e1).1 32) <;> simp only [cond_true, cond_false, bind_so, flC_go] <;>
      cases h7 : ltI 0 (bitsOp .and .u8 (u8P t1 e1).1 16) <;> simp only [cond_true, cond_false, bind_so, flC_go, fin_eq])
end Go.Proofs
end
section
namespace Go.Proofs
open Go.Ab

theorem loop_len (x : ByteArray) (n : Nat) : ∀ i r, x.size - i = n → (ByteArray.toList.loop x i r).length = r.length + (x.size - i) := by
  induction n with
  | zero =>
    intro i r h
    rw [ByteArray.toList.loop]
    rw [if_neg (by omega)]
    simp; omega
  | succ n ih =>
    intro i r h
    rw [ByteArray.toList.loop, if_pos (by omega), ih (i+1) _ (by omega)]
    simp; omega
theorem toList_len (x : ByteArray) : x.toList.length = x.size := by
  unfold ByteArray.toList
  rw [loop_len x _ 0 [] rfl]; simp
theorem toList_nil (x : ByteArray) : (x.toList == (⟨#[]⟩ : ByteArray).toList) = decide (lenS x < 1) := by
  have h0 : (⟨#[]⟩ : ByteArray).toList = [] := List.eq_nil_of_length_eq_zero (toList_len _)
  rw [h0]
  have hl := toList_len x
  unfold lenS
  cases hx : x.toList with
  | nil => rw [hx] at hl; simp only [List.length_nil] at hl; rw [decide_eq_true (by omega)]; rfl
  | cons a r => rw [hx] at hl; simp only [List.length_cons] at hl; rw [decide_eq_false (by omega)]; rfl
theorem eqS_empty (x : ByteArray) : eqS x ⟨#[]⟩ = decide (lenS x < 1) := toList_nil x
theorem neS_empty (x : ByteArray) : neS x ⟨#[]⟩ = decide (0 < lenS x) := by
  show (!(x.toList == (⟨#[]⟩ : ByteArray).toList)) = _
  rw [toList_nil]
  by_cases h : lenS x < 1
  · rw [decide_eq_true h, decide_eq_false (by omega)]; rfl
  · rw [decide_eq_false h, decide_eq_true (by omega)]; rfl

abbrev Pk := Antiphonref03Packet
abbrev Came := Antiphonref11Came
def zeroPk : Pk := .mk false 0 0 0 0 [] false 0 ⟨#[]⟩ ⟨#[]⟩ 0
/-- A packet as it is kept: without payload there is no marker. -/
def normP (p : Pk) : Pk := if lenS p.fPayload < 1 then .mk false p.fType p.fSeq p.fTime p.fSsrc p.fCsrcs p.fExt p.fProfile p.fData p.fPayload p.fPadding else p
def findP : List Came → Int → Pk
  | [], _ => zeroPk
  | c :: r, k => if c.fAt = k then c.fP else findP r k
structure POk (p : Pk) : Prop where
  s0 : 0 ≤ p.fSeq
  s1 : p.fSeq < 65536
  t0 : 0 ≤ p.fTime
  t1 : p.fTime < 4294967296
  tx : lenS p.fPayload ≤ 40
theorem zero_ok : POk zeroPk := ⟨by decide, by decide, by decide, by decide, by decide⟩
theorem findP_ok : ∀ {L : List Came}, (∀ c ∈ L, POk c.fP) → ∀ k, POk (findP L k)
  | [], _, _ => zero_ok
  | c :: r, h, k => by
    unfold findP
    split
    · exact h c (.head _)
    · exact findP_ok (fun c hc => h c (.tail _ hc)) k
theorem dropC {α : Type} [Inhabited α] {L : List α} {i : Nat} (h : i < L.length) : L.drop i = nthI L (i : Int) :: L.drop (i + 1) := by
  rw [List.drop_eq_getElem_cons h]
  simp [nthI, h]
/-! ### A descriptor -/
set_option maxHeartbeats 4000000 in
theorem parse_some (s : ByteArray) : ∃ r, gRef04Parse s = some r := by
  unfold gRef04Parse
  simp only [bind_so, rtake, need_t (nz (show (32 : Int) ≠ 0 by decide)), need_t (nz (show (2 : Int) ≠ 0 by decide)), need_t (nz (show (16 : Int) ≠ 0 by decide)), need_t (nz (show (8 : Int) ≠ 0 by decide))]
  have fin : ∀ (x : Option (Antiphonref02Reader × Antiphonref04Desc)), (∃ y, x = some y) → ∃ r, (x.bind fun r3 => bif neI r3.1.fE 0 then some ((Antiphonref04Desc.mk false false 0 0 false 0 0 false 0), (⟨#[]⟩ : ByteArray), r3.1.fE) else some (r3.2, r3.1.fS, 0)) = some r := by
    rintro x ⟨y, rfl⟩
    rw [bind_so]
    cases neI y.1.fE 0 <;> exact ⟨_, rfl⟩
  have last : ∀ (r : Antiphonref02Reader) (d : Antiphonref04Desc) (b : Int), ∃ y, gRef04Last r d b = some y := by
    intro r d b
    obtain ⟨t, e⟩ := r
    unfold gRef04Last gRef04Numbers
    simp only [need_t (nz (show (128 : Int) ≠ 0 by decide)), need_t (nz (show (64 : Int) ≠ 0 by decide)), need_t (nz (show (32 : Int) ≠ 0 by decide)), need_t (nz (show (2 : Int) ≠ 0 by decide)), need_t (nz (show (16 : Int) ≠ 0 by decide)), need_t (nz (show (4 : Int) ≠ 0 by decide)), bind_so, rtake]
    cases h2 : eqI (quoI .i64 b 128) 1 <;> cases h3 : ltI 127 (u8P t e).1
    all_goals simp only [cond_true, cond_false, bind_so, flC_go, rtake]
    all_goals (
      cases h4 : eqI (remI (quoI .i64 b 64) 2) 1 <;> simp only [cond_true, cond_false, bind_so, flC_go, rtake] <;>
      cases h5 : ltI 0 (remI (quoI .i64 b 16) 4) <;> simp only [cond_true, cond_false, bind_so, flC_go] <;>
      cases h6 : eqI (remI (quoI .i64 b 32) 2) 1 <;> (try simp only [cond_true, cond_false, bind_so, flC_go]) <;>
      cases h7 : eqI (remI (quoI .i64 b 16) 2) 1 <;> exact ⟨_, rfl⟩)
  cases h1 : ltI 127 (u8P s 0).1
  · simp only [cond_false, bind_so, flC_go]
    exact fin _ (last _ _ _)
  · simp only [cond_true, bind_so, flC_go]
    exact fin _ (last _ _ _)
noncomputable def parsP (s : ByteArray) : Antiphonref04Desc × ByteArray × Int := (parse_some s).choose
theorem rparse (s : ByteArray) : gRef04Parse s = some (parsP s) := (parse_some s).choose_spec
theorem oparse (s : ByteArray) : gVp8Parse s = some (parsP s) := (parse_eq s).trans (rparse s)

def keyP (d : Antiphonref04Desc) (rest : ByteArray) : Bool := d.fStart && decide (d.fPart = 0) && decide (0 < lenS rest) && eqI (remI (idxS rest 0) 2) 0
set_option maxRecDepth 100000 in
theorem bit0 {b : Int} (h0 : 0 ≤ b) (h1 : b < 256) : eqI (bitsOp .and .u8 b 1) 0 = eqI (remI b 2) 0 := byteD (p := fun b => eqI (bitsOp .and .u8 b 1) 0 = eqI (remI b 2) 0) (by decide) h0 h1
theorem okey (d : Antiphonref04Desc) (rest : ByteArray) : gVp8Keyframe d rest = some (keyP d rest) := by
  unfold gVp8Keyframe keyP
  have hr := idxS_r rest 0
  rw [neS_empty, bit0 hr.1 hr.2, eqI_d, pickB_and, pickB_and, pickB_and]
  have hu : Under (d.fStart && decide (d.fPart = 0) && decide (0 < lenS rest)) true (InB 0 (lenS rest)) := fun h => by
    simp only [Bool.and_eq_true, decide_eq_true_eq] at h
    exact ⟨by omega, h.2⟩
  rw [need_t hu]
/-! ### A packet in its order -/
noncomputable def unitM (video : Bool) (ck : Int) (L : List Came) (t : Thg) : Un × Int :=
  let p := findP L t.fAt
  let r := parsP p.fPayload
  let v := video && decide (r.2.2 = 0)
  (.mk t.fAt (clkM ck p.fTime).2 (p.fMarker && decide (0 < lenS p.fPayload)) (v && (r.1.fStart && decide (r.1.fPart = 0))) (v && keyP r.1 r.2.1) p.fPayload t.fTick, (clkM ck p.fTime).1)

theorem norm_payload (p : Pk) : (normP p).fPayload = p.fPayload ∧ (normP p).fTime = p.fTime ∧ (normP p).fMarker = (p.fMarker && decide (0 < lenS p.fPayload)) := by
  unfold normP
  by_cases h : lenS p.fPayload < 1
  · rw [if_pos h, decide_eq_false (by omega), Bool.and_false]; exact ⟨rfl, rfl, rfl⟩
  · rw [if_neg h, decide_eq_true (by omega), Bool.and_true]; exact ⟨rfl, rfl, rfl⟩

theorem ounit (s : IngressSource) (t : Thg) (ck : Int) (L : List Came) (hL : ∀ c ∈ L, POk c.fP) (hc : ClkRel s.fClock ck) (hg : getM eqI t.fAt zeroPk s.fOf = normP (findP L t.fAt)) :
    ∃ c', gIngressSourceUnit s t = some ((unitM s.fMaker.fConfig.fVideo ck L t).1, IngressSource.mk s.fBuffer s.fMaker s.fSeq c' (delM eqI t.fAt s.fOf) s.fBad s.fKeys) ∧ ClkRel c' (unitM s.fMaker.fConfig.fVideo ck L t).2 := by
  have ho := findP_ok hL t.fAt
  obtain ⟨n1, n2, n3⟩ := norm_payload (findP L t.fAt)
  obtain ⟨c', e1, e2⟩ := oclk (s := IngressSource.mk s.fBuffer s.fMaker s.fSeq s.fClock (delM eqI t.fAt s.fOf) s.fBad s.fKeys) hc ho.t0 ho.t1
  refine ⟨c', ?_, e2⟩
  have hz : (Antiphonref03Packet.mk false 0 0 0 0 [] false 0 ⟨⟨[]⟩⟩ ⟨⟨[]⟩⟩ 0) = zeroPk := rfl
  unfold gIngressSourceUnit unitM
  rw [hz, hg, n1, n2, n3, e1, bind_so]
  dsimp only
  rw [oparse, bind_so, pickB_and, pickB_and, eqI_d, eqI_d, okey]
  cases hv : (s.fMaker.fConfig.fVideo && decide ((parsP (findP L t.fAt).fPayload).2.2 = 0))
  · rw [cond_false, bind_so, flC_go]; simp only [Bool.false_and]
  · rw [cond_true, bind_so, bind_so, flC_go]; simp only [Bool.true_and]
end Go.Proofs
end
