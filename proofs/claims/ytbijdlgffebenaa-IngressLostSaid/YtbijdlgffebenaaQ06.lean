/- A byte off the front, in both readers; the two readers of descriptors say the same. No condition. -/
import Derived.Test.YtbijdlgffebenaaQ01
import Derived.Test.YtbijdlgffebenaaQ09
import Derived.Test.YtbijdlgffebenaaQ11
import Derived.Test.YtbijdlgffebenaaQ02
import Derived.Test.YtbijdlgffebenaaQ05
section
namespace Go.Proofs
open Go.Ab

theorem wrapU8 (n : Int) : IntKind.u8.wrap n = n % 256 := by simp [IntKind.wrap, IntKind.bits, IntKind.signed]
theorem wrapU16 (n : Int) : IntKind.u16.wrap n = n % 65536 := by simp [IntKind.wrap, IntKind.bits, IntKind.signed]
theorem wrapU32 (n : Int) : IntKind.u32.wrap n = n % 4294967296 := by simp [IntKind.wrap, IntKind.bits, IntKind.signed]
theorem wrapU64 (n : Int) : IntKind.u64.wrap n = n % 18446744073709551616 := by simp [IntKind.wrap, IntKind.bits, IntKind.signed]

def emptyS : ByteArray := ⟨#[]⟩
def u8P (s : ByteArray) (e : Int) : Int × ByteArray × Int :=
  if e ≠ 0 then (0, s, e) else if lenS s < 1 then (0, ⟨#[]⟩, 1) else (idxS s 0, cutS s 1 (lenS s), 0)

theorem idxS_r (s : ByteArray) (n : Int) : 0 ≤ idxS s n ∧ idxS s n < 256 := by
  unfold idxS
  have := (s.data.toList.getD n.toNat 0).toNat_lt
  omega
theorem u8P_r (s : ByteArray) (e : Int) : 0 ≤ (u8P s e).1 ∧ (u8P s e).1 < 256 := by
  unfold u8P
  split
  · exact ⟨Int.le_refl _, by show (0 : Int) < 256; omega⟩
  · split
    · exact ⟨Int.le_refl _, by show (0 : Int) < 256; omega⟩
    · exact idxS_r s 0

theorem cut1 {s : ByteArray} (h : ¬ lenS s < 1) : (cutS s 0 1).data.toList = [s.data.toList.getD 0 0] := by
  unfold lenS at h
  have hs : 0 < s.data.toList.length := by
    have : s.size = s.data.toList.length := by rw [Array.length_toList]; rfl
    omega
  unfold cutS
  have e1 : (s.extract (0 : Int).toNat (1 : Int).toNat).data.toList = (s.data.toList.drop 0).take 1 := by
    simp [ByteArray.data_extract]
  rw [e1]
  match hl : s.data.toList, hs with
  | a :: r, _ => simp

theorem numsOf_cut1 {s : ByteArray} (h : ¬ lenS s < 1) : numsOf (cutS s 0 1) = [idxS s 0] := by
  unfold numsOf
  rw [cut1 h]
  simp [idxS]
theorem lenS_cut1 {s : ByteArray} (h : ¬ lenS s < 1) : lenS (cutS s 0 1) = 1 := by
  have := congrArg List.length (cut1 h)
  simp only [Array.length_toList, List.length_cons, List.length_nil] at this
  show ((cutS s 0 1).data.size : Int) = 1
  omega
theorem idxS_cut1 {s : ByteArray} (h : ¬ lenS s < 1) : idxS (cutS s 0 1) 0 = idxS s 0 := by
  unfold idxS
  rw [cut1 h]; rfl

theorem obytes1 (s : ByteArray) (e : Int) : gu ⟨s, e⟩ 1 = some (if e ≠ 0 then (⟨#[]⟩, ⟨s, e⟩) else if lenS s < 1 then (⟨#[]⟩, ⟨⟨#[]⟩, 1⟩) else (cutS s 0 1, ⟨cutS s 1 (lenS s), 0⟩)) := by
  unfold gu gO
  simp only [neI_d]
  by_cases he : e = 0
  · subst he
    rw [show (decide ((0 : Int) ≠ 0)) = false from rfl, cond_false, if_neg (by simp), show ltI 1 0 = false from rfl, cond_false, ltI_d]
    by_cases hl : lenS s < 1
    · rw [decide_eq_true hl, cond_true, if_pos hl]; rfl
    · rw [decide_eq_false hl, cond_false, if_neg hl, Le ⟨by decide, by omega, by omega⟩, Le ⟨by omega, by omega, by omega⟩]
  · rw [decide_eq_true he, cond_true, if_pos he]

theorem onum_nil (r : ByteArray × Tj) (h : r.1 = ⟨#[]⟩) : loopF (gp.loop1 r) (0, 0) = some (.go 0) := by
  rw [loopF_eq]
  unfold gp.loop1
  rw [h]; rfl
theorem onum_one (r : ByteArray × Tj) {b : Int} (h : numsOf r.1 = [b]) (h0 : 0 ≤ b) (h1 : b < 256) : loopF (gp.loop1 r) (0, 0) = some (.go b) := by
  have s1 : gp.loop1 r (0, 0) = some (.go (1, b)) := by
    unfold gp.loop1
    rw [h]
    have e1 : ltI (0 : Int) (lenL [b]) = true := rfl
    simp only [e1, cond_true]
    rw [Le (show InB 0 (lenL [b]) from ⟨Int.le_refl _, by show (0 : Int) < 1; omega⟩), Le (show NonN 8 by decide)]
    have e2 : bitsOp .or .u64 (shlI .u64 0 8) (cvtI .u64 (nthI [b] 0)) = b := by
      have hn : nthI [b] 0 = b := rfl
      have hs : shlI .u64 0 8 = 0 := by decide
      rw [hn, hs]
      unfold cvtI bitsOp
      simp only [wrapU64]
      rw [Int.emod_eq_of_lt h0 (by omega)]
      show (((BitVec.ofInt 64 0 ||| BitVec.ofInt 64 b).toNat : Nat) : Int) % 18446744073709551616 = b
      have : BitVec.ofInt 64 0 ||| BitVec.ofInt 64 b = BitVec.ofInt 64 b := by simp
      rw [this, BitVec.toNat_ofInt]
      omega
    rw [e2]; rfl
  rw [loopF_eq, s1]
  dsimp only
  rw [loopF_eq]
  unfold gp.loop1
  rw [h]; rfl

theorem ou8 (s : ByteArray) (e : Int) : gB ⟨s, e⟩ = some ((u8P s e).1, ⟨(u8P s e).2.1, (u8P s e).2.2⟩) := by
  unfold gB gp
  have hm : minI (maxI 1 1) 8 = 1 := by decide
  rw [hm, obytes1, Lb]
  have c0 : cvtI .u8 0 = 0 := by decide
  unfold u8P
  split
  · rw [onum_nil _ rfl]; simp [c0]
  · split
    · rw [onum_nil _ rfl]; simp [c0]
    · rename_i hl
      have hr := idxS_r s 0
      rw [onum_one _ (numsOf_cut1 hl) hr.1 hr.2]
      simp only [Lb, flC_go]
      rw [show cvtI .u8 (idxS s 0) = idxS s 0 from by unfold cvtI; rw [wrapU8]; omega]

theorem rvalue_nil (x : ByteArray) (h : x = ⟨#[]⟩) : gas x = some 0 := by
  subst h
  unfold gas
  rw [loopF_eq]; rfl
theorem rvalue_one {s : ByteArray} (h : ¬ lenS s < 1) : gas (cutS s 0 1) = some (idxS s 0) := by
  have hr := idxS_r s 0
  unfold gas
  have s1 : gas.loop1 (cutS s 0 1) (0, 0) = some (.go (1, idxS s 0)) := by
    unfold gas.loop1
    rw [lenS_cut1 h]
    have e1 : ltI (0 : Int) 1 = true := rfl
    simp only [e1, cond_true]
    rw [Le (show InB 0 1 by decide), idxS_cut1 h]
    have e2 : addI .u64 (mulI .u64 0 256) (cvtI .u64 (idxS s 0)) = idxS s 0 := by
      unfold addI mulI cvtI
      simp only [wrapU64]
      omega
    rw [e2]; rfl
  have s2 : gas.loop1 (cutS s 0 1) (1, idxS s 0) = some (.out (.go (idxS s 0))) := by
    unfold gas.loop1
    rw [lenS_cut1 h]; rfl
  rw [loopF_eq, s1]
  dsimp only
  rw [loopF_eq, s2]
  rfl

theorem rtake (s : ByteArray) (e : Int) : gax ⟨s, e⟩ 1 = some (⟨(u8P s e).2.1, (u8P s e).2.2⟩, (u8P s e).1) := by
  unfold gax gaR
  have hm : minI (maxI 1 1) 8 = 1 := by decide
  rw [hm]
  simp only [neI_d]
  unfold u8P
  by_cases he : e = 0
  · subst he
    rw [show (decide ((0 : Int) ≠ 0)) = false from rfl, cond_false, if_neg (by simp), show ltI 1 0 = false from rfl, cond_false, ltI_d]
    by_cases hl : lenS s < 1
    · rw [decide_eq_true hl, cond_true, if_pos hl, Lb, rvalue_nil _ rfl]; rfl
    · rw [decide_eq_false hl, cond_false, if_neg hl, Le ⟨by omega, by omega, by omega⟩, Le ⟨by decide, by omega, by omega⟩, Lb, rvalue_one hl]; rfl
  · rw [decide_eq_true he, cond_true, if_pos he, Lb, rvalue_nil _ rfl]; rfl

theorem byteD {p : Int → Prop} (h : ∀ n : Fin 256, p (n.val : Int)) {b : Int} (h0 : 0 ≤ b) (h1 : b < 256) : p b := by
  have := h ⟨b.toNat, by omega⟩
  simp only at this
  rwa [Int.toNat_of_nonneg h0] at this
end Go.Proofs
end
section
namespace Go.Proofs
open Go.Ab
def Ris : Int → List Thg → Int → Prop
  | lo, [], hi => lo ≤ hi
  | lo, t :: r, hi => lo ≤ t.fAt ∧ Ris (t.fAt + 1) r hi
theorem Ris.low {lo lo' : Int} (h : lo' ≤ lo) : ∀ {l : List Thg} {hi : Int}, Ris lo l hi → Ris lo' l hi
  | [], _, q => by simp only [Ris] at q ⊢; omega
  | t :: r, _, q => ⟨by have := q.1; omega, q.2⟩
theorem Ris.append {b c : Int} {l' : List Thg} : ∀ {l : List Thg} {a : Int}, Ris a l b → Ris b l' c → Ris a (l ++ l') c
  | [], _a, h, q => q.low h
  | _t :: _r, _a, h, q => ⟨h.1, Ris.append h.2 q⟩
theorem from_ris : ∀ {l : List Thg} {n : Int}, From n l → Ris n l (n + l.length)
  | [], n, _ => by simp [Ris]
  | t :: r, n, h => by
    have := from_ris h.2
    refine ⟨by rw [h.1]; omega, ?_⟩
    rw [h.1]
    simp only [List.length_cons, Int.natCast_add, Int.natCast_one]
    rw [show n + ((r.length : Int) + 1) = n + 1 + r.length by omega]
    exact this
structure Bd (B : Int) (x : RBf) : Prop where
  nx : x.fg ≤ B
  at_ : ∀ t ∈ x.fL, t.fAt < B

theorem run_bd {n B : Int} {L : List Thg} (hu : Up (n - 1) L) (hn : n ≤ B) (hb : ∀ t ∈ L, t.fAt < B) : (runL n L).2.1 ≤ B ∧ (∀ t ∈ (runL n L).2.2, t.fAt < B) ∧ Ris n (runL n L).1 (runL n L).2.1 := by
  obtain ⟨q1, q2, q3, q4⟩ := runL_spec L n hu
  have hsub : ∀ u ∈ (runL n L).2.2, u ∈ L := fun u hu => by rw [q2]; exact List.mem_append_right _ hu
  have hsub1 : ∀ u ∈ (runL n L).1, u ∈ L := fun u hu => by rw [q2]; exact List.mem_append_left _ hu
  refine ⟨?_, fun t ht => hb t (hsub t ht), ?_⟩
  · by_cases hq : (runL n L).1 = []
    · rw [q3, hq]; simp; exact hn
    · have := from_last q4 (B - 1) (fun u hu => by have := hb u (hsub1 u hu); omega) hq
      omega
  · rw [q3]; exact from_ris q4

theorem skip_bd {x : RBf} (h : Ok x) {B : Int} (hb : Bd B x) : Bd B (skipS x).1 ∧ Ris x.fg (skipS x).2 (skipS x).1.fg := by
  unfold skipS
  split
  · exact ⟨hb, by simp [Ris]⟩
  · rename_i t r hL
    have hu := h.up
    rw [hL] at hu
    have ha := hb.at_ t (by rw [hL]; exact .head _)
    obtain ⟨r1, r2, r3⟩ := run_bd (n := t.fAt) (B := B) (L := x.fL) (by rw [hL]; exact up_head hu) (by omega) hb.at_
    exact ⟨⟨r1, r2⟩, r3.low (by have := hu.1; omega)⟩

theorem while_bd (c : RBf → Bool) (hc : ∀ x, Ok x → c x = true → 0 ≤ x.fk → x.fL ≠ []) {B : Int} : ∀ (f : Nat) (x : RBf), Ok x → 0 ≤ x.fk → Bd B x → Bd B (whileS c f x).1 ∧ Ris x.fg (whileS c f x).2 (whileS c f x).1.fg
  | 0, x, _, _, hb => ⟨hb, by simp [whileS, Ris]⟩
  | f + 1, x, h, hm, hb => by
    cases hh : c x with
    | false => simp only [whileS, hh, Bool.false_eq_true, if_false]; exact ⟨hb, by simp [Ris]⟩
    | true =>
      cases hL : x.fL with
      | nil => exact absurd hL (hc x h hh hm)
      | cons t r =>
        obtain ⟨q1, _, _⟩ := skip_ok h hL
        obtain ⟨s1, s2⟩ := skip_bd h hb
        have hm' : 0 ≤ (skipS x).1.fk := by unfold skipS; split <;> exact hm
        obtain ⟨r1, r2⟩ := while_bd c hc f (skipS x).1 q1 hm' s1
        simp only [whileS, hh, if_true]
        exact ⟨r1, s2.append r2⟩

theorem put_bd {x : RBf} (h : Inv x) {t : Thg} (ht : Good t) {B : Int} (hb : Bd B x) (htb : t.fAt < B) : Bd B (putS x t).1 ∧ Ris x.fg (putS x t).2.1 (putS x t).1.fg := by
  obtain ⟨b1, b2, b3, b4, b5, b6⟩ := beg_ok h ht
  have hm0 := h.m0
  have hml := h.ml
  have hm1 := h.m1
  rw [lenL_def] at hml
  have hbb : Bd B (begS x t) := by
    refine ⟨?_, by rw [b2]; exact hb.at_⟩
    unfold begS
    split
    · exact hb.nx
    · simp only; omega
  unfold putS
  split
  · exact ⟨hbb, by simp only [Ris]; exact b6⟩
  · split
    · exact ⟨hbb, by simp only [Ris]; exact b6⟩
    · rename_i hge hno
      have hno' : hasL t.fAt (begS x t).fL = false := by rw [b2]; simpa using hno
      have hu := add_up b1 (t := t) (by omega) hno'
      obtain ⟨r1, r2⟩ := run_ok b1 ht (by omega) hno' (by rw [b2]; omega)
      obtain ⟨u1, u2, u3⟩ := run_bd (n := (begS x t).fg) (B := B) (L := (addS (begS x t) t).fL) hu hbb.nx (fun u hu => by
        have : u ∈ t :: (begS x t).fL := (insL_perm t _).mem_iff.1 hu
        cases this with
        | head => exact htb
        | tail _ hu => exact hbb.at_ u hu)
      obtain ⟨w1, w2⟩ := while_bd cMost (fun y _ h1 h2 => cMost_ne h2 h1) (B := B) (runS (addS (begS x t) t)).1.fL.length (runS (addS (begS x t) t)).1 r1 (by show 0 ≤ (begS x t).fk; rw [b3]; omega) ⟨u1, u2⟩
      exact ⟨w1, (u3.append w2).low b6⟩

theorem put_len {x : RBf} (h : Inv x) {t : Thg} (ht : Good t) : (putS x t).2.1.length ≤ 2000000 := by
  obtain ⟨b1, b2, b3, b4, b5, b6⟩ := beg_ok h ht
  have hm0 := h.m0
  have hml := h.ml
  have hm1 := h.m1
  rw [lenL_def] at hml
  unfold putS
  split
  · simp
  · split
    · simp
    · rename_i hge hno
      have hno' : hasL t.fAt (begS x t).fL = false := by rw [b2]; simpa using hno
      obtain ⟨r1, r2⟩ := run_ok b1 ht (by omega) hno' (by rw [b2]; omega)
      obtain ⟨w1, w2, w3⟩ := while_okM _ _ r1 (by show 0 ≤ (begS x t).fk; rw [b3]; omega) (Nat.le_refl _)
      simp only [List.length_append]
      rw [b2] at r2
      omega

theorem cut10 (s : ByteArray) : ∃ t, gam s 10 = some t := by
  unfold gam
  by_cases h : (10 : Int) < lenS s
  · rw [ltI_t h]
    simp only [cond_true]
    rw [Le ⟨by omega, by omega, by omega⟩]
    exact ⟨_, rfl⟩
  · rw [ltI_f h]; exact ⟨_, rfl⟩

theorem and31 (a : Int) : bitsOp .and .i64 a 31 = a % 32 := and_mask' (j := 5) (by omega) a 31 rfl

/-! ### What the document fixes -/
theorem new_ok {c : Tk} (h0 : 1 ≤ c.fk) (h1 : c.fk ≤ 1024) (h2 : 0 ≤ c.fq) (h3 : c.fq ≤ 1099511627776) : gaa c = some (some (Tg.mk c false 0 [] 0), 0) := by
  have hc : gq c = some 0 := by
    unfold gq
    simp only [ltI_f (show ¬ (c.fk < 1) by omega), ltI_f (show ¬ (1024 < c.fk) by omega), ltI_f (show ¬ (c.fq < 0) by omega), ltI_f (show ¬ (1099511627776 < c.fq) by omega), pickB_f, cond_false]
  unfold gaa
  rw [hc]
  simp only [Lb, neI_f rfl, cond_false]

def newS (most wait : Int) : RBf := ⟨most, wait, false, 0, [], 0⟩
theorem newS_inv {most wait : Int} (h0 : 1 ≤ most) (h1 : most ≤ 1024) : Inv (newS most wait) :=
  ⟨⟨trivial, by simp [newS], by simp [newS], by simp [newS], by simp [newS], (fun t ht => by cases ht), by simp [newS]⟩, h0, h1, by simp only [newS, lenL_nil]; omega, fun _ => ⟨rfl, rfl⟩⟩
theorem newS_rel (most wait : Int) : Rel (Tg.mk ⟨most, wait⟩ false 0 [] 0) (newS most wait) := ⟨rfl, rfl, rfl, rfl, List.Perm.refl _⟩

end Go.Proofs
end
