/- One call on both buffers: the same things go out, rising. No condition. -/
import Derived.Test.YtkbfbedphdlgiaaRu
import Derived.Test.YtkbfbedphdlgiaaCuD
namespace Go.Proofs
open Go.Ab

theorem same_refl (L : List Thg) (hl : L.length ≤ 2000000) : gLaw09Same L L = some true := by
  have key : ∀ (k i : Nat), L.length - i = k → i ≤ L.length → loopF (gLaw09Same.loop1 L L) (i : Int) = some (.go ()) := by
    intro k
    induction k with
    | zero =>
      intro i hk hi
      rw [loopF_eq]
      have : gLaw09Same.loop1 L L (i : Int) = some (.out (.go ())) := by
        unfold gLaw09Same.loop1
        rw [ltI_f (by rw [lenL_def]; omega)]; rfl
      rw [this]
    | succ k ih =>
      intro i hk hi
      have hin : InB (i : Int) (lenL L) := ⟨by omega, by rw [lenL_def]; omega⟩
      rw [loopF_eq]
      have : gLaw09Same.loop1 L L (i : Int) = some (.go ((i + 1 : Nat) : Int)) := by
        unfold gLaw09Same.loop1
        rw [ltI_t hin.2]
        simp only [cond_true]
        rw [need_t hin, need_t hin, eqI_t rfl, eqI_t rfl, (eqS_iff _ _).2 rfl, addI_n (by omega) (by omega)]; rfl
      rw [this]
      exact ih (i + 1) (by omega) (by omega)
  have := key L.length 0 (by omega) (by omega)
  unfold gLaw09Same
  rw [neI_f rfl]
  simp only [cond_false]
  simp only [Int.natCast_zero] at this
  rw [this]; rfl

/-- Rising numbers from lo on, all below hi. -/
def Ris : Int → List Thg → Int → Prop
  | lo, [], hi => lo ≤ hi
  | lo, t :: r, hi => lo ≤ t.fAt ∧ Ris (t.fAt + 1) r hi
theorem Ris.low {lo lo' : Int} (h : lo' ≤ lo) : ∀ {l : List Thg} {hi : Int}, Ris lo l hi → Ris lo' l hi
  | [], _, q => by simp only [Ris] at q ⊢; omega
  | t :: r, _, q => ⟨by have := q.1; omega, q.2⟩
theorem Ris.append {b c : Int} {l' : List Thg} : ∀ {l : List Thg} {a : Int}, Ris a l b → Ris b l' c → Ris a (l ++ l') c
  | [], _a, h, q => q.low h
  | _t :: _r, _a, h, q => ⟨h.1, Ris.append h.2 q⟩
theorem from_ris : ∀ {l : List Thg} {n : Int}, From n l → Ris n l (n + l.length)
  | [], n, _ => by simp [Ris]
  | t :: r, n, h => by
    have := from_ris h.2
    refine ⟨by rw [h.1]; omega, ?_⟩
    rw [h.1]
    simp only [List.length_cons, Int.natCast_add, Int.natCast_one]
    rw [show n + ((r.length : Int) + 1) = n + 1 + r.length by omega]
    exact this

/-- All numbers are small. -/
structure Bd (B : Int) (x : RBf) : Prop where
  nx : x.fNext ≤ B
  at_ : ∀ t ∈ x.fL, t.fAt < B

theorem run_bd {n B : Int} {L : List Thg} (hu : Up (n - 1) L) (hn : n ≤ B) (hb : ∀ t ∈ L, t.fAt < B) : (runL n L).2.1 ≤ B ∧ (∀ t ∈ (runL n L).2.2, t.fAt < B) ∧ Ris n (runL n L).1 (runL n L).2.1 := by
  obtain ⟨q1, q2, q3, q4⟩ := runL_spec L n hu
  have hsub : ∀ u ∈ (runL n L).2.2, u ∈ L := fun u hu => by rw [q2]; exact List.mem_append_right _ hu
  have hsub1 : ∀ u ∈ (runL n L).1, u ∈ L := fun u hu => by rw [q2]; exact List.mem_append_left _ hu
  refine ⟨?_, fun t ht => hb t (hsub t ht), ?_⟩
  · by_cases hq : (runL n L).1 = []
    · rw [q3, hq]; simp; exact hn
    · have := from_last q4 (B - 1) (fun u hu => by have := hb u (hsub1 u hu); omega) hq
      omega
  · rw [q3]; exact from_ris q4

theorem skip_bd {x : RBf} (h : Ok x) {B : Int} (hb : Bd B x) : Bd B (skipS x).1 ∧ Ris x.fNext (skipS x).2 (skipS x).1.fNext := by
  unfold skipS
  split
  · exact ⟨hb, by simp [Ris]⟩
  · rename_i t r hL
    have hu := h.up
    rw [hL] at hu
    have ha := hb.at_ t (by rw [hL]; exact .head _)
    obtain ⟨r1, r2, r3⟩ := run_bd (n := t.fAt) (B := B) (L := x.fL) (by rw [hL]; exact up_head hu) (by omega) hb.at_
    exact ⟨⟨r1, r2⟩, r3.low (by have := hu.1; omega)⟩

theorem while_bd (c : RBf → Bool) (hc : ∀ x, Ok x → c x = true → 0 ≤ x.fMost → x.fL ≠ []) {B : Int} : ∀ (f : Nat) (x : RBf), Ok x → 0 ≤ x.fMost → Bd B x → Bd B (whileS c f x).1 ∧ Ris x.fNext (whileS c f x).2 (whileS c f x).1.fNext
  | 0, x, _, _, hb => ⟨hb, by simp [whileS, Ris]⟩
  | f + 1, x, h, hm, hb => by
    cases hh : c x with
    | false => simp only [whileS, hh, Bool.false_eq_true, if_false]; exact ⟨hb, by simp [Ris]⟩
    | true =>
      cases hL : x.fL with
      | nil => exact absurd hL (hc x h hh hm)
      | cons t r =>
        obtain ⟨q1, _, _⟩ := skip_ok h hL
        obtain ⟨s1, s2⟩ := skip_bd h hb
        have hm' : 0 ≤ (skipS x).1.fMost := by unfold skipS; split <;> exact hm
        obtain ⟨r1, r2⟩ := while_bd c hc f (skipS x).1 q1 hm' s1
        simp only [whileS, hh, if_true]
        exact ⟨r1, s2.append r2⟩

theorem put_bd {x : RBf} (h : Inv x) {t : Thg} (ht : Good t) {B : Int} (hb : Bd B x) (htb : t.fAt < B) : Bd B (putS x t).1 ∧ Ris x.fNext (putS x t).2.1 (putS x t).1.fNext := by
  obtain ⟨b1, b2, b3, b4, b5, b6⟩ := beg_ok h ht
  have hm0 := h.m0
  have hml := h.ml
  have hm1 := h.m1
  rw [lenL_def] at hml
  have hbb : Bd B (begS x t) := by
    refine ⟨?_, by rw [b2]; exact hb.at_⟩
    unfold begS
    split
    · exact hb.nx
    · simp only; omega
  unfold putS
  split
  · exact ⟨hbb, by simp only [Ris]; exact b6⟩
  · split
    · exact ⟨hbb, by simp only [Ris]; exact b6⟩
    · rename_i hge hno
      have hno' : hasL t.fAt (begS x t).fL = false := by rw [b2]; simpa using hno
      have hu := add_up b1 (t := t) (by omega) hno'
      obtain ⟨r1, r2⟩ := run_ok b1 ht (by omega) hno' (by rw [b2]; omega)
      obtain ⟨u1, u2, u3⟩ := run_bd (n := (begS x t).fNext) (B := B) (L := (addS (begS x t) t).fL) hu hbb.nx (fun u hu => by
        have : u ∈ t :: (begS x t).fL := (insL_perm t _).mem_iff.1 hu
        cases this with
        | head => exact htb
        | tail _ hu => exact hbb.at_ u hu)
      obtain ⟨w1, w2⟩ := while_bd cMost (fun y _ h1 h2 => cMost_ne h2 h1) (B := B) (runS (addS (begS x t) t)).1.fL.length (runS (addS (begS x t) t)).1 r1 (by show 0 ≤ (begS x t).fMost; rw [b3]; omega) ⟨u1, u2⟩
      exact ⟨w1, (u3.append w2).low b6⟩

structure SInv (s : Antiphonlaw09State) : Prop where
  rel : Rel s.fB s.fX
  inv : Inv s.fX
  now : 0 ≤ s.fNow

theorem put_len {x : RBf} (h : Inv x) {t : Thg} (ht : Good t) : (putS x t).2.1.length ≤ 2000000 := by
  obtain ⟨b1, b2, b3, b4, b5, b6⟩ := beg_ok h ht
  have hm0 := h.m0
  have hml := h.ml
  have hm1 := h.m1
  rw [lenL_def] at hml
  unfold putS
  split
  · simp
  · split
    · simp
    · rename_i hge hno
      have hno' : hasL t.fAt (begS x t).fL = false := by rw [b2]; simpa using hno
      obtain ⟨r1, r2⟩ := run_ok b1 ht (by omega) hno' (by rw [b2]; omega)
      obtain ⟨w1, w2, w3⟩ := while_okM _ _ r1 (by show 0 ≤ (begS x t).fMost; rw [b3]; omega) (Nat.le_refl _)
      simp only [List.length_append]
      rw [b2] at r2
      omega

theorem cut10 (s : ByteArray) : ∃ t, gLaw01Cut s 10 = some t := by
  unfold gLaw01Cut
  by_cases h : (10 : Int) < lenS s
  · rw [ltI_t h]
    simp only [cond_true]
    rw [need_t ⟨by omega, by omega, by omega⟩]
    exact ⟨_, rfl⟩
  · rw [ltI_f h]; exact ⟨_, rfl⟩

theorem and31 (a : Int) : bitsOp .and .i64 a 31 = a % 32 := and_mask' (j := 5) (by omega) a 31 rfl

theorem does_ok {s : Antiphonlaw09State} (h : SInv s) (a : Antiphonlaw09Act) {B : Int} (hB0 : 1100 ≤ B) (hB : B ≤ 100000000000) (hb : Bd B s.fX) (hn : s.fNow ≤ 1000000000) :
    ∃ s' out, gLaw09Does s a = some (s', out, true) ∧ SInv s' ∧ Bd (B + 24) s'.fX ∧ s'.fNow ≤ s.fNow + 31 ∧ Ris s.fX.fNext out s'.fX.fNext ∧ out.length ≤ 2000000 ∧ s'.fX.fMost = s.fX.fMost ∧ (a.fKind = 2 → cTick s'.fNow s'.fX = false) := by
  have hby : 0 ≤ a.fBy % 32 ∧ a.fBy % 32 < 32 := ⟨Int.emod_nonneg _ (by omega), Int.emod_lt_of_pos _ (by omega)⟩
  have hnn := h.inv.nn
  have hnow := h.now
  have hbx := hb.nx
  have hb' : Bd (B + 24) s.fX := ⟨by have := hb.nx; omega, fun t ht => by have := hb.at_ t ht; omega⟩
  unfold gLaw09Does
  rw [and31]
  by_cases k1 : a.fKind = 1
  · rw [eqI_t k1]
    simp only [cond_true]
    have hat : ∃ v : Int, ((bif (notB s.fX.fBegun) then (some (.go (addI .i64 1000 (a.fBy % 32)))) else (some (.go (maxI (subI .i64 (addI .i64 s.fX.fNext (a.fBy % 32)) 8) 0))) : Option (Fl Int (Antiphonlaw09State × List Antiphonref09Thing × Bool)))) = some (.go v) ∧ 0 ≤ v ∧ v < B + 24 := by
      cases hbg : s.fX.fBegun with
      | false =>
        refine ⟨1000 + a.fBy % 32, ?_, by omega, by omega⟩
        rw [addI_n (by omega) (by omega)]; rfl
      | true =>
        refine ⟨max (s.fX.fNext + a.fBy % 32 - 8) 0, ?_, by omega, by omega⟩
        have e1 : addI .i64 s.fX.fNext (a.fBy % 32) = s.fX.fNext + a.fBy % 32 := addI_n (by omega) (by omega)
        rw [e1, subI_n (by omega) (by omega)]; rfl
    obtain ⟨v, hv, hv0, hv1⟩ := hat
    rw [hv]
    simp only [bind_so, flC_go]
    obtain ⟨tx, hc⟩ := cut10 a.fS
    rw [hc]
    simp only [bind_so]
    have ht : Good (Antiphonref09Thing.mk v tx s.fNow) := ⟨hv0, by simp only; omega, hnow, by simp only; omega⟩
    obtain ⟨b', ho, hr'⟩ := oput h.rel h.inv ht
    rw [ho, rput h.inv ht]
    simp only [bind_so]
    have hl := put_len h.inv ht
    rw [eqI_t rfl, same_refl _ hl]
    simp only [Option.isSome_some]
    rw [need_t (under_of trivial)]
    obtain ⟨p1, p2, p3, p4⟩ := put_inv h.inv ht
    obtain ⟨d1, d2⟩ := put_bd h.inv ht (B := B + 24) hb' hv1
    refine ⟨_, _, rfl, ⟨hr', p1, hnow⟩, d1, by simp only; omega, d2, hl, p3, fun e => ?_⟩
    rw [k1] at e; cases e
  · rw [eqI_f k1]
    simp only [cond_false]
    by_cases k2 : a.fKind = 2
    · rw [eqI_t k2]
      simp only [cond_true]
      rw [addI_n (by omega) (by omega)]
      obtain ⟨b', ho, hr'⟩ := otick h.rel h.inv (now := s.fNow + a.fBy % 32) (by omega) (by omega)
      rw [ho, rtick h.inv (by omega) (by omega)]
      simp only [bind_so]
      obtain ⟨w1, w2, w3⟩ := while_ok (cTick (s.fNow + a.fBy % 32)) (cTick_ne _) s.fX.fL.length s.fX h.inv.toOk (Nat.le_refl _)
      have hlen := h.inv.len
      have hl : (tickS s.fX (s.fNow + a.fBy % 32)).2.length ≤ 2000000 := by unfold tickS; omega
      rw [same_refl _ hl]
      simp only [bind_so]
      obtain ⟨d1, d2⟩ := while_bd (cTick (s.fNow + a.fBy % 32)) (fun y _ h1 _ => cTick_ne _ y h1) (B := B + 24) s.fX.fL.length s.fX h.inv.toOk (by have := h.inv.m0; omega) hb'
      refine ⟨_, _, rfl, ⟨hr', tick_inv h.inv _, by simp only; omega⟩, d1, by simp only; omega, d2, hl, (whileS_most _ _ _).1, fun _ => w2⟩
    · rw [eqI_f k2]
      simp only [cond_false]
      by_cases k3 : a.fKind = 3
      · rw [eqI_t k3]
        simp only [cond_true]
        obtain ⟨b', ho, hr'⟩ := oflush h.rel h.inv
        have hlen := h.inv.len
        rw [ho, rflush_loop s.fX.fL.length s.fX [] (Nat.le_refl _) h.inv.toOk (by simp only [List.length_nil]; omega)]
        simp only [bind_so, flC_go, List.nil_append]
        obtain ⟨w1, w2, w3⟩ := while_ok cAny cAny_ne s.fX.fL.length s.fX h.inv.toOk (Nat.le_refl _)
        have hl : (flushS s.fX).2.length ≤ 2000000 := by unfold flushS; omega
        have e : (whileS cAny s.fX.fL.length s.fX).2 = (flushS s.fX).2 := rfl
        rw [e, same_refl _ hl]
        simp only [bind_so]
        obtain ⟨d1, d2⟩ := while_bd cAny (fun y _ h1 _ => cAny_ne y h1) (B := B + 24) s.fX.fL.length s.fX h.inv.toOk (by have := h.inv.m0; omega) hb'
        refine ⟨_, _, rfl, ⟨hr', (flush_inv h.inv).1, hnow⟩, d1, by simp only; omega, d2, hl, (whileS_most _ _ _).1, fun e => absurd e k2⟩
      · rw [eqI_f k3]
        exact ⟨_, _, rfl, h, hb', by omega, by simp [Ris], by simp, rfl, fun e => absurd e k2⟩

theorem begin_ok (most wait : Int) : ∃ s, gLaw09Begin most wait = some (s, true) ∧ SInv s ∧ Bd 2000 s.fX ∧ s.fNow = 0 ∧ s.fX.fNext = 0 := by
  have h1 : bitsOp .and .i64 most 255 = most % 256 := and_mask' (j := 8) (by omega) most 255 rfl
  have h2 : bitsOp .and .i64 wait 15 = wait % 16 := and_mask' (j := 4) (by omega) wait 15 rfl
  have hm : 0 ≤ most % 256 ∧ most % 256 < 256 := ⟨Int.emod_nonneg _ (by omega), Int.emod_lt_of_pos _ (by omega)⟩
  have hw : 0 ≤ wait % 16 ∧ wait % 16 < 16 := ⟨Int.emod_nonneg _ (by omega), Int.emod_lt_of_pos _ (by omega)⟩
  have h3 : remI (most % 256) 12 = most % 256 % 12 := by unfold remI; rw [Int.tmod_eq_emod_of_nonneg hm.1]
  have h4 : 0 ≤ most % 256 % 12 ∧ most % 256 % 12 < 12 := ⟨Int.emod_nonneg _ (by omega), Int.emod_lt_of_pos _ (by omega)⟩
  unfold gLaw09Begin
  rw [need_t (show NonZ 12 by decide), h1, h2, h3, addI_n (by omega) (by omega)]
  have hc : gReorderConfigCheck ⟨1 + most % 256 % 12, wait % 16⟩ = some 0 := by
    unfold gReorderConfigCheck
    simp only [ltI_f (show ¬ (1 + most % 256 % 12 < 1) by omega), ltI_f (show ¬ (1024 < 1 + most % 256 % 12) by omega), ltI_f (show ¬ (wait % 16 < 0) by omega), ltI_f (show ¬ (1099511627776 < wait % 16) by omega), pickB_f, cond_false]
  have hn : gReorderNew ⟨1 + most % 256 % 12, wait % 16⟩ = some (some (ReorderBuffer.mk ⟨1 + most % 256 % 12, wait % 16⟩ false 0 [] 0), 0) := by
    unfold gReorderNew
    rw [hc]
    simp only [bind_so, neI_f rfl, cond_false]
  rw [hn]
  simp only [bind_so, optC_some, eqI_t rfl, pickB_t]
  refine ⟨_, rfl, ⟨⟨rfl, rfl, rfl, rfl, List.Perm.refl _⟩, ⟨⟨trivial, by simp only; omega, by simp only; omega, by simp only; omega, by simp only; omega, (fun t ht => by cases ht), by simp⟩, by simp only; omega, by simp only; omega, by simp only [lenL_nil]; omega, fun _ => ⟨rfl, rfl⟩⟩, by simp only; omega⟩, ⟨by simp only; omega, fun t ht => by cases ht⟩, rfl, rfl⟩

/-! ### What the document fixes -/
theorem new_ok {c : ReorderConfig} (h0 : 1 ≤ c.fMost) (h1 : c.fMost ≤ 1024) (h2 : 0 ≤ c.fWait) (h3 : c.fWait ≤ 1099511627776) : gReorderNew c = some (some (ReorderBuffer.mk c false 0 [] 0), 0) := by
  have hc : gReorderConfigCheck c = some 0 := by
    unfold gReorderConfigCheck
    simp only [ltI_f (show ¬ (c.fMost < 1) by omega), ltI_f (show ¬ (1024 < c.fMost) by omega), ltI_f (show ¬ (c.fWait < 0) by omega), ltI_f (show ¬ (1099511627776 < c.fWait) by omega), pickB_f, cond_false]
  unfold gReorderNew
  rw [hc]
  simp only [bind_so, neI_f rfl, cond_false]

def newS (most wait : Int) : RBf := ⟨most, wait, false, 0, [], 0⟩
theorem newS_inv {most wait : Int} (h0 : 1 ≤ most) (h1 : most ≤ 1024) : Inv (newS most wait) :=
  ⟨⟨trivial, by simp [newS], by simp [newS], by simp [newS], by simp [newS], (fun t ht => by cases ht), by simp [newS]⟩, h0, h1, by simp only [newS, lenL_nil]; omega, fun _ => ⟨rfl, rfl⟩⟩
theorem newS_rel (most wait : Int) : Rel (ReorderBuffer.mk ⟨most, wait⟩ false 0 [] 0) (newS most wait) := ⟨rfl, rfl, rfl, rfl, List.Perm.refl _⟩

theorem awake_ok : gLaw09Awake = some true := by
  have t5 : Good (Antiphonref09Thing.mk 5 ⟨#[]⟩ 0) := ⟨by decide, by decide, by decide, by decide⟩
  have t7 : Good (Antiphonref09Thing.mk 7 ⟨#[]⟩ 0) := ⟨by decide, by decide, by decide, by decide⟩
  have t6 : Good (Antiphonref09Thing.mk 6 ⟨#[]⟩ 0) := ⟨by decide, by decide, by decide, by decide⟩
  have i0 : Inv (newS 4 5) := newS_inv (by decide) (by decide)
  obtain ⟨b1, p1, r1⟩ := oput (newS_rel 4 5) i0 t5
  have i1 := (put_inv i0 t5).1
  obtain ⟨b2, p2, r2⟩ := oput r1 i1 t7
  have i2 := (put_inv i1 t7).1
  have m := omissing r2 i2.toOk (most := 9) (by decide) (by decide)
  obtain ⟨b3, p3, r3⟩ := oput r2 i2 t6
  unfold gLaw09Awake
  rw [new_ok (by decide) (by decide) (by decide) (by decide)]
  simp only [bind_so, optC_some, neI_f rfl, pickB_f, cond_false]
  rw [p1]
  simp only [bind_so]
  rw [p2]
  simp only [bind_so]
  rw [m]
  simp only [bind_so]
  rw [p3]
  simp only [bind_so]
  have e1 : lenL (putS (newS 4 5) (Antiphonref09Thing.mk 5 ⟨#[]⟩ 0)).2.1 = 1 := by decide
  have e2 : lenL (putS (putS (newS 4 5) (Antiphonref09Thing.mk 5 ⟨#[]⟩ 0)).1 (Antiphonref09Thing.mk 7 ⟨#[]⟩ 0)).2.1 = 0 := by decide
  have e3 : missS 9 (putS (putS (newS 4 5) (Antiphonref09Thing.mk 5 ⟨#[]⟩ 0)).1 (Antiphonref09Thing.mk 7 ⟨#[]⟩ 0)).1.fNext [] (putS (putS (newS 4 5) (Antiphonref09Thing.mk 5 ⟨#[]⟩ 0)).1 (Antiphonref09Thing.mk 7 ⟨#[]⟩ 0)).1.fL = [6] := by decide
  have e4 : lenL (putS (putS (putS (newS 4 5) (Antiphonref09Thing.mk 5 ⟨#[]⟩ 0)).1 (Antiphonref09Thing.mk 7 ⟨#[]⟩ 0)).1 (Antiphonref09Thing.mk 6 ⟨#[]⟩ 0)).2.1 = 2 := by decide
  have e5 : (nthI (putS (putS (putS (newS 4 5) (Antiphonref09Thing.mk 5 ⟨#[]⟩ 0)).1 (Antiphonref09Thing.mk 7 ⟨#[]⟩ 0)).1 (Antiphonref09Thing.mk 6 ⟨#[]⟩ 0)).2.1 1).fAt = 7 := by decide
  rw [e1, e2, e3, e4, e5]
  rw [need_t (under_of ⟨by decide, by decide⟩), need_t (under_of ⟨by decide, by decide⟩)]
  rfl
end Go.Proofs
