/- The two readers of descriptors say the same. No condition. -/
import Derived.Test.YtbijdlgffebenaaGreatJb
import Derived.Test.YtbijdlgffebenaaGreatM09
import Derived.Test.YtbijdlgffebenaaGreatRu
import Derived.Test.YtbijdlgffebenaaGreatM07
section
set_option maxRecDepth 100000
namespace Go.Proofs
open Go.Ab

theorem pb (s : ByteArray) (e : Int) {p : Int → Prop} (h : ∀ n : Fin 256, p (n.val : Int)) : p (u8P s e).1 := byteD h (u8P_r s e).1 (u8P_r s e).2

theorem p64 (s : ByteArray) (e : Int) : cvtI .i64 (u8P s e).1 = (u8P s e).1 := by
  have := u8P_r s e
  exact wrap64_of (by omega) (by omega)
theorem pA32 (s : ByteArray) (e : Int) : eqI (remI (quoI .u64 (u8P s e).1 32) 2) 1 = ltI 0 (bitsOp .and .u8 (u8P s e).1 32) := pb s e (p := fun b => eqI (remI (quoI .u64 b 32) 2) 1 = ltI 0 (bitsOp .and .u8 b 32)) (by decide)
theorem pA16 (s : ByteArray) (e : Int) : eqI (remI (quoI .u64 (u8P s e).1 16) 2) 1 = ltI 0 (bitsOp .and .u8 (u8P s e).1 16) := pb s e (p := fun b => eqI (remI (quoI .u64 b 16) 2) 1 = ltI 0 (bitsOp .and .u8 b 16)) (by decide)
theorem pA8 (s : ByteArray) (e : Int) : cvtI .i64 (remI (u8P s e).1 8) = cvtI .i64 (bitsOp .and .u8 (u8P s e).1 7) := pb s e (p := fun b => cvtI .i64 (remI b 8) = cvtI .i64 (bitsOp .and .u8 b 7)) (by decide)
theorem pB128 (s : ByteArray) (e : Int) : eqI (quoI .i64 (u8P s e).1 128) 1 = ltI 0 (bitsOp .and .u8 (u8P s e).1 128) := pb s e (p := fun b => eqI (quoI .i64 b 128) 1 = ltI 0 (bitsOp .and .u8 b 128)) (by decide)
theorem pB64 (s : ByteArray) (e : Int) : eqI (remI (quoI .i64 (u8P s e).1 64) 2) 1 = ltI 0 (bitsOp .and .u8 (u8P s e).1 64) := pb s e (p := fun b => eqI (remI (quoI .i64 b 64) 2) 1 = ltI 0 (bitsOp .and .u8 b 64)) (by decide)
theorem pB48 (s : ByteArray) (e : Int) : ltI 0 (remI (quoI .i64 (u8P s e).1 16) 4) = ltI 0 (bitsOp .and .u8 (u8P s e).1 48) := pb s e (p := fun b => ltI 0 (remI (quoI .i64 b 16) 4) = ltI 0 (bitsOp .and .u8 b 48)) (by decide)
theorem pB32 (s : ByteArray) (e : Int) : eqI (remI (quoI .i64 (u8P s e).1 32) 2) 1 = ltI 0 (bitsOp .and .u8 (u8P s e).1 32) := pb s e (p := fun b => eqI (remI (quoI .i64 b 32) 2) 1 = ltI 0 (bitsOp .and .u8 b 32)) (by decide)
theorem pB16 (s : ByteArray) (e : Int) : eqI (remI (quoI .i64 (u8P s e).1 16) 2) 1 = ltI 0 (bitsOp .and .u8 (u8P s e).1 16) := pb s e (p := fun b => eqI (remI (quoI .i64 b 16) 2) 1 = ltI 0 (bitsOp .and .u8 b 16)) (by decide)
theorem pC64 (s : ByteArray) (e : Int) : cvtI .i64 (quoI .u64 (u8P s e).1 64) = cvtI .i64 (shrI .u8 (u8P s e).1 6) := pb s e (p := fun b => cvtI .i64 (quoI .u64 b 64) = cvtI .i64 (shrI .u8 b 6)) (by decide)
theorem pC31 (s : ByteArray) (e : Int) : cvtI .i64 (remI (u8P s e).1 32) = cvtI .i64 (bitsOp .and .u8 (u8P s e).1 31) := pb s e (p := fun b => cvtI .i64 (remI b 32) = cvtI .i64 (bitsOp .and .u8 b 31)) (by decide)

theorem picS (s t : ByteArray) (e f : Int) (h : ltI 127 (u8P s e).1 = true) :
    bitsOp .or .i64 (shlI .i64 (bitsOp .and .i64 (u8P s e).1 127) 8) (u8P t f).1 = addI .i64 (mulI .i64 (cvtI .i64 (subI .u64 (u8P s e).1 128)) 256) (u8P t f).1 := by
  have h' : 127 < (u8P s e).1 := by rw [ltI_d] at h; simpa using h
  have r1 := u8P_r s e
  have r2 := u8P_r t f
  generalize (u8P s e).1 = n at *
  generalize (u8P t f).1 = m at *
  have a1 : bitsOp .and .i64 n 127 = n % 128 := and_mask' (j := 7) (by omega) n 127 rfl
  have a2 : shlI .i64 (n % 128) 8 = (n % 128) * 256 := by
    show IntKind.i64.wrap ((n % 128) * 256) = _
    exact wrap64_of (by omega) (by omega)
  have a3 : subI .u64 n 128 = n - 128 := by unfold subI; rw [wrapU64]; omega
  have a4 : cvtI .i64 (n - 128) = n - 128 := wrap64_of (by omega) (by omega)
  have a5 : mulI .i64 (n - 128) 256 = (n - 128) * 256 := mulI_n (by omega) (by omega)
  rw [a1, a2, a3, a4, a5, addI_n (by omega) (by omega)]
  rw [or_add (j := 8) (by omega) (by show _ % 256 = 0; omega) r2.1 (by show m < 256; omega) (by omega)]
  omega

theorem nz {n : Int} (h : n ≠ 0) : NonZ n := h
theorem rbytes_rest (s : ByteArray) : gM ⟨s, 0⟩ = some (cutS s 0 (lenS s), ⟨cutS s (lenS s) (lenS s), 0⟩) := by
  have hl : 0 ≤ lenS s := by unfold lenS; omega
  unfold gM gao gz
  dsimp only
  rw [Ld, show neI 0 0 = false from rfl, cond_false, ltI_d, ltI_d, decide_eq_false (by omega), cond_false, decide_eq_false (by omega), cond_false, Lk ⟨by omega, by omega, by omega⟩, Lk ⟨by omega, by omega, by omega⟩]
  rfl
theorem cut_all (s : ByteArray) : cutS s 0 (lenS s) = s := by
  unfold cutS lenS
  simp [ByteArray.extract_zero_size]

theorem fin_eq (t : ByteArray) (e : Int) (d : Te) : ((gak ⟨t, e⟩).bind fun r8 =>
      bif neI r8 0 then some ((Te.mk false false 0 0 false 0 0 false 0), (⟨#[]⟩ : ByteArray), r8)
      else (gM ⟨t, e⟩).bind fun r9 => some (d, r9.1, 0)) =
    bif neI e 0 then some ((Te.mk false false 0 0 false 0 0 false 0), (⟨#[]⟩ : ByteArray), e) else some (d, t, 0) := by
  unfold gak
  rw [Ld]
  by_cases he : e = 0
  · subst he
    rw [rbytes_rest, Ld, cut_all]
  · rw [neI_d, decide_eq_true he]; rfl

theorem z128 : ltI 0 (bitsOp .and .u8 0 128) = false := by decide
theorem z64 : ltI 0 (bitsOp .and .u8 0 64) = false := by decide
theorem z48 : ltI 0 (bitsOp .and .u8 0 48) = false := by decide
theorem y128 : eqI (quoI .i64 0 128) 1 = false := by decide
theorem y64 : eqI (remI (quoI .i64 0 64) 2) 1 = false := by decide
theorem y48 : ltI 0 (remI (quoI .i64 0 16) 4) = false := by decide

set_option maxHeartbeats 4000000 in
theorem parse_eq (s : ByteArray) : gas s = gaj s := by
  unfold gas gaj gaJ gap
  simp only [Ld, ou8, rtake, Lk (nz (show (32 : Int) ≠ 0 by decide)), Lk (nz (show (2 : Int) ≠ 0 by decide)), Lk (nz (show (16 : Int) ≠ 0 by decide)), Lk (nz (show (8 : Int) ≠ 0 by decide)),
    pA32, pA16, pA8]
  cases h1 : ltI 127 (u8P s 0).1
  all_goals simp only [cond_true, cond_false, Ld, flC_go, p64]
  all_goals unfold gar gaa
  all_goals simp only [Lk (nz (show (128 : Int) ≠ 0 by decide)), Lk (nz (show (64 : Int) ≠ 0 by decide)), Lk (nz (show (32 : Int) ≠ 0 by decide)), Lk (nz (show (2 : Int) ≠ 0 by decide)), Lk (nz (show (16 : Int) ≠ 0 by decide)), Lk (nz (show (4 : Int) ≠ 0 by decide)),
    Lk (show NonN 8 by decide), Lk (show NonN 6 by decide), pB128, pB64, pB48, pB32, pB16, gX, Ld, ou8, rtake, p64]
  · simp only [z128, z64, z48, y128, y64, y48, cond_false, Ld, flC_go, fin_eq]
  · generalize (u8P s 0).2.1 = t1
    generalize (u8P s 0).2.2 = e1
    cases h2 : ltI 0 (bitsOp .and .u8 (u8P t1 e1).1 128) <;> cases h3 : ltI 127 (u8P (u8P t1 e1).2.1 (u8P t1 e1).2.2).1
    all_goals try rw [picS _ _ _ _ h3]
    all_goals simp only [cond_true, cond_false, Ld, flC_go, ou8, rtake, p64]
    all_goals (
      cases h4 : ltI 0 (bitsOp .and .u8 (u8P t1 e1).1 64) <;> simp only [cond_true, cond_false, Ld, flC_go, ou8, rtake] <;>
      cases h5 : ltI 0 (bitsOp .and .u8 (u8P t1 e1).1 48) <;> simp only [cond_true, cond_false, Ld, flC_go, fin_eq, pA32, pC64, pC31] <;>
      cases h6 : ltI 0 (bitsOp .and .u8 (u8P t1 e1).1 32) <;> simp only [cond_true, cond_false, Ld, flC_go] <;>
      cases h7 : ltI 0 (bitsOp .and .u8 (u8P t1 e1).1 16) <;> simp only [cond_true, cond_false, Ld, flC_go, fin_eq])
end Go.Proofs
end
section
namespace Go.Proofs
open Go.Ab
def Ris : Int → List Thg → Int → Prop
  | lo, [], hi => lo ≤ hi
  | lo, t :: r, hi => lo ≤ t.fAt ∧ Ris (t.fAt + 1) r hi
theorem Ris.low {lo lo' : Int} (h : lo' ≤ lo) : ∀ {l : List Thg} {hi : Int}, Ris lo l hi → Ris lo' l hi
  | [], _, q => by simp only [Ris] at q ⊢; omega
  | t :: r, _, q => ⟨by have := q.1; omega, q.2⟩
theorem Ris.append {b c : Int} {l' : List Thg} : ∀ {l : List Thg} {a : Int}, Ris a l b → Ris b l' c → Ris a (l ++ l') c
  | [], _a, h, q => q.low h
  | _t :: _r, _a, h, q => ⟨h.1, Ris.append h.2 q⟩
theorem from_ris : ∀ {l : List Thg} {n : Int}, From n l → Ris n l (n + l.length)
  | [], n, _ => by simp [Ris]
  | t :: r, n, h => by
    have := from_ris h.2
    refine ⟨by rw [h.1]; omega, ?_⟩
    rw [h.1]
    simp only [List.length_cons, Int.natCast_add, Int.natCast_one]
    rw [show n + ((r.length : Int) + 1) = n + 1 + r.length by omega]
    exact this
structure Bd (B : Int) (x : RBf) : Prop where
  nx : x.fg ≤ B
  at_ : ∀ t ∈ x.fL, t.fAt < B

theorem run_bd {n B : Int} {L : List Thg} (hu : Up (n - 1) L) (hn : n ≤ B) (hb : ∀ t ∈ L, t.fAt < B) : (runL n L).2.1 ≤ B ∧ (∀ t ∈ (runL n L).2.2, t.fAt < B) ∧ Ris n (runL n L).1 (runL n L).2.1 := by
  obtain ⟨q1, q2, q3, q4⟩ := runL_spec L n hu
  have hsub : ∀ u ∈ (runL n L).2.2, u ∈ L := fun u hu => by rw [q2]; exact List.mem_append_right _ hu
  have hsub1 : ∀ u ∈ (runL n L).1, u ∈ L := fun u hu => by rw [q2]; exact List.mem_append_left _ hu
  refine ⟨?_, fun t ht => hb t (hsub t ht), ?_⟩
  · by_cases hq : (runL n L).1 = []
    · rw [q3, hq]; simp; exact hn
    · have := from_last q4 (B - 1) (fun u hu => by have := hb u (hsub1 u hu); omega) hq
      omega
  · rw [q3]; exact from_ris q4

theorem skip_bd {x : RBf} (h : Ok x) {B : Int} (hb : Bd B x) : Bd B (skipS x).1 ∧ Ris x.fg (skipS x).2 (skipS x).1.fg := by
  unfold skipS
  split
  · exact ⟨hb, by simp [Ris]⟩
  · rename_i t r hL
    have hu := h.up
    rw [hL] at hu
    have ha := hb.at_ t (by rw [hL]; exact .head _)
    obtain ⟨r1, r2, r3⟩ := run_bd (n := t.fAt) (B := B) (L := x.fL) (by rw [hL]; exact up_head hu) (by omega) hb.at_
    exact ⟨⟨r1, r2⟩, r3.low (by have := hu.1; omega)⟩

theorem while_bd (c : RBf → Bool) (hc : ∀ x, Ok x → c x = true → 0 ≤ x.fk → x.fL ≠ []) {B : Int} : ∀ (f : Nat) (x : RBf), Ok x → 0 ≤ x.fk → Bd B x → Bd B (whileS c f x).1 ∧ Ris x.fg (whileS c f x).2 (whileS c f x).1.fg
  | 0, x, _, _, hb => ⟨hb, by simp [whileS, Ris]⟩
  | f + 1, x, h, hm, hb => by
    cases hh : c x with
    | false => simp only [whileS, hh, Bool.false_eq_true, if_false]; exact ⟨hb, by simp [Ris]⟩
    | true =>
      cases hL : x.fL with
      | nil => exact absurd hL (hc x h hh hm)
      | cons t r =>
        obtain ⟨q1, _, _⟩ := skip_ok h hL
        obtain ⟨s1, s2⟩ := skip_bd h hb
        have hm' : 0 ≤ (skipS x).1.fk := by unfold skipS; split <;> exact hm
        obtain ⟨r1, r2⟩ := while_bd c hc f (skipS x).1 q1 hm' s1
        simp only [whileS, hh, if_true]
        exact ⟨r1, s2.append r2⟩

theorem put_bd {x : RBf} (h : Inv x) {t : Thg} (ht : Good t) {B : Int} (hb : Bd B x) (htb : t.fAt < B) : Bd B (putS x t).1 ∧ Ris x.fg (putS x t).2.1 (putS x t).1.fg := by
  obtain ⟨b1, b2, b3, b4, b5, b6⟩ := beg_ok h ht
  have hm0 := h.m0
  have hml := h.ml
  have hm1 := h.m1
  rw [lenL_def] at hml
  have hbb : Bd B (begS x t) := by
    refine ⟨?_, by rw [b2]; exact hb.at_⟩
    unfold begS
    split
    · exact hb.nx
    · simp only; omega
  unfold putS
  split
  · exact ⟨hbb, by simp only [Ris]; exact b6⟩
  · split
    · exact ⟨hbb, by simp only [Ris]; exact b6⟩
    · rename_i hge hno
      have hno' : hasL t.fAt (begS x t).fL = false := by rw [b2]; simpa using hno
      have hu := add_up b1 (t := t) (by omega) hno'
      obtain ⟨r1, r2⟩ := run_ok b1 ht (by omega) hno' (by rw [b2]; omega)
      obtain ⟨u1, u2, u3⟩ := run_bd (n := (begS x t).fg) (B := B) (L := (addS (begS x t) t).fL) hu hbb.nx (fun u hu => by
        have : u ∈ t :: (begS x t).fL := (insL_perm t _).mem_iff.1 hu
        cases this with
        | head => exact htb
        | tail _ hu => exact hbb.at_ u hu)
      obtain ⟨w1, w2⟩ := while_bd cMost (fun y _ h1 h2 => cMost_ne h2 h1) (B := B) (runS (addS (begS x t) t)).1.fL.length (runS (addS (begS x t) t)).1 r1 (by show 0 ≤ (begS x t).fk; rw [b3]; omega) ⟨u1, u2⟩
      exact ⟨w1, (u3.append w2).low b6⟩

theorem put_len {x : RBf} (h : Inv x) {t : Thg} (ht : Good t) : (putS x t).2.1.length ≤ 2000000 := by
  obtain ⟨b1, b2, b3, b4, b5, b6⟩ := beg_ok h ht
  have hm0 := h.m0
  have hml := h.ml
  have hm1 := h.m1
  rw [lenL_def] at hml
  unfold putS
  split
  · simp
  · split
    · simp
    · rename_i hge hno
      have hno' : hasL t.fAt (begS x t).fL = false := by rw [b2]; simpa using hno
      obtain ⟨r1, r2⟩ := run_ok b1 ht (by omega) hno' (by rw [b2]; omega)
      obtain ⟨w1, w2, w3⟩ := while_okM _ _ r1 (by show 0 ≤ (begS x t).fk; rw [b3]; omega) (Nat.le_refl _)
      simp only [List.length_append]
      rw [b2] at r2
      omega

/-! ### What the document fixes -/
theorem new_ok {c : Tt} (h0 : 1 ≤ c.fk) (h1 : c.fk ≤ 1024) (h2 : 0 ≤ c.fp) (h3 : c.fp ≤ 1099511627776) : gaq c = some (some (Th.mk c false 0 [] 0), 0) := by
  have hc : gK c = some 0 := by
    unfold gK
    simp only [ltI_f (show ¬ (c.fk < 1) by omega), ltI_f (show ¬ (1024 < c.fk) by omega), ltI_f (show ¬ (c.fp < 0) by omega), ltI_f (show ¬ (1099511627776 < c.fp) by omega), pickB_f, cond_false]
  unfold gaq
  rw [hc]
  simp only [Ld, neI_f rfl, cond_false]

def newS (most wait : Int) : RBf := ⟨most, wait, false, 0, [], 0⟩
theorem newS_inv {most wait : Int} (h0 : 1 ≤ most) (h1 : most ≤ 1024) : Inv (newS most wait) :=
  ⟨⟨trivial, by simp [newS], by simp [newS], by simp [newS], by simp [newS], (fun t ht => by cases ht), by simp [newS]⟩, h0, h1, by simp only [newS, lenL_nil]; omega, fun _ => ⟨rfl, rfl⟩⟩
theorem newS_rel (most wait : Int) : Rel (Th.mk ⟨most, wait⟩ false 0 [] 0) (newS most wait) := ⟨rfl, rfl, rfl, rfl, List.Perm.refl _⟩

end Go.Proofs
end
