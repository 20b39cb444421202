/- Things in their order, and in any order. No condition. -/
import Derived.Test.YtkbfbedphdlgiaaRv
import Derived.Test.YtkbfbedphdlgiaaRnD
import Derived.Test.YtkbfbedphdlgiaaReD
namespace Go.Proofs
open Go.Ab

theorem runL_from : ∀ {L : List Thg} {n : Int}, From n L → runL n L = (L, n + L.length, [])
  | [], n, _ => by simp [runL]
  | t :: r, n, h => by
    rw [runL_t h.1, runL_from h.2]
    simp only [List.length_cons, Int.natCast_add, Int.natCast_one, Prod.mk.injEq, true_and, and_true]
    omega
theorem insL_front {t : Thg} {L : List Thg} {n : Int} (h : From n L) (ht : t.fAt < n) : insL t L = t :: L := by
  cases L with
  | nil => rfl
  | cons u r => rw [insL, if_pos (by rw [h.1]; exact ht)]
theorem whileS_no {c : RBf → Bool} {x : RBf} (h : c x = false) (f : Nat) : whileS c f x = (x, []) := by
  cases f with
  | zero => rfl
  | succ f => simp [whileS, h]
theorem hasL_from {L : List Thg} {n k : Int} (h : From n L) (hk : k < n) : hasL k L = false := by
  induction L generalizing n with
  | nil => rfl
  | cons u r ih =>
    simp only [hasL, List.any_cons, Bool.or_eq_false_iff, decide_eq_false_iff_not]
    exact ⟨by rw [h.1]; omega, ih h.2 (by omega)⟩

/-- What comes in its order goes out at once. -/
theorem put_next (mo wa lo n : Int) (be : Bool) (t : Thg) (ht : t.fAt = n) (hm : 1 ≤ mo) : putS ⟨mo, wa, be, n, [], lo⟩ t = (⟨mo, wa, true, n + 1, [], lo⟩, [t], 0) := by
  have hb : begS ⟨mo, wa, be, n, [], lo⟩ t = ⟨mo, wa, true, n, [], lo⟩ := by
    unfold begS
    cases be with
    | true => rfl
    | false => simp [ht]
  unfold putS
  rw [hb]
  simp only
  rw [if_neg (by omega), if_neg (by simp [hasL])]
  have hr : runS (addS ⟨mo, wa, true, n, [], lo⟩ t) = (⟨mo, wa, true, n + 1, [], lo⟩, [t]) := by
    simp [runS, addS, insL, runL, ht]
  rw [hr]
  simp only
  rw [whileS_no (by simp only [cMost, lenL_nil, decide_eq_false_iff_not]; omega)]
  rfl

/-- What comes too early waits. -/
theorem put_early (mo wa lo n m : Int) (L : List Thg) (t : Thg) (h : From m L) (hm : t.fAt < m) (hn : n < t.fAt) (hl : (L.length : Int) + 1 ≤ mo) : putS ⟨mo, wa, true, n, L, lo⟩ t = (⟨mo, wa, true, n, t :: L, lo⟩, [], 0) := by
  have hb : begS ⟨mo, wa, true, n, L, lo⟩ t = ⟨mo, wa, true, n, L, lo⟩ := rfl
  unfold putS
  rw [hb]
  simp only
  rw [if_neg (by omega), hasL_from h hm, if_neg (by simp)]
  have hr : runS (addS ⟨mo, wa, true, n, L, lo⟩ t) = (⟨mo, wa, true, n, t :: L, lo⟩, []) := by
    simp only [runS, addS, insL_front h hm]
    rw [runL_f (by omega)]
  rw [hr]
  simp only
  rw [whileS_no (by simp only [cMost, lenL_cons, decide_eq_false_iff_not]; rw [lenL_def]; omega)]
  rfl

/-- What was missing closes the gap. -/
theorem put_close (mo wa lo n : Int) (L : List Thg) (t : Thg) (h : From (n + 1) L) (ht : t.fAt = n) (hm : 1 ≤ mo) : putS ⟨mo, wa, true, n, L, lo⟩ t = (⟨mo, wa, true, n + 1 + L.length, [], lo⟩, t :: L, 0) := by
  have hb : begS ⟨mo, wa, true, n, L, lo⟩ t = ⟨mo, wa, true, n, L, lo⟩ := rfl
  unfold putS
  rw [hb]
  simp only
  rw [if_neg (by omega), hasL_from h (by omega), if_neg (by simp)]
  have hr : runS (addS ⟨mo, wa, true, n, L, lo⟩ t) = (⟨mo, wa, true, n + 1 + L.length, [], lo⟩, t :: L) := by
    simp only [runS, addS, insL_front h (show t.fAt < n + 1 by omega)]
    rw [runL_t ht, runL_from h]
  rw [hr]
  simp only
  rw [whileS_no (by simp only [cMost, lenL_nil, decide_eq_false_iff_not]; omega)]
  simp

theorem fill_all (most : Int) : ∀ (f : Nat) (a : Int) (out : List Int), lenL out + f ≤ most → fillS most f a out = out ++ (List.range f).map fun (j : Nat) => a + (j : Int)
  | 0, a, out, _ => by simp [fillS]
  | f + 1, a, out, h => by
    rw [fillS, if_pos (by omega), fill_all most f (a + 1) (out ++ [a]) (by
      have e : lenL (out ++ [a]) = lenL out + 1 := by simp [lenL]
      omega)]
    rw [show List.range (f + 1) = 0 :: (List.range f).map Nat.succ from List.range_succ_eq_map]
    simp only [List.map_cons, List.map_map, List.append_assoc, List.cons_append, List.nil_append]
    congr 1
    simp only [Int.natCast_zero, Int.add_zero, List.cons.injEq, true_and]
    refine List.map_congr_left fun j _ => ?_
    simp only [Function.comp, Nat.succ_eq_add_one, Int.natCast_add, Int.natCast_one]; omega

theorem good_of {k : Int} (h0 : 0 ≤ k) (h1 : k ≤ 100000) : Good (Antiphonref09Thing.mk k ⟨#[]⟩ 0) := ⟨h0, by simp only; omega, by simp only; omega, by simp only; omega⟩
theorem and31' (a : Int) : bitsOp .and .i64 a 31 = a % 32 := and_mask' (j := 5) (by omega) a 31 rfl
theorem and15' (a : Int) : bitsOp .and .i64 a 15 = a % 16 := and_mask' (j := 4) (by omega) a 15 rfl

theorem olen {b : ReorderBuffer} {x : RBf} (h : Rel b x) : gReorderBufferLen b = some (lenL x.fL) := by unfold gReorderBufferLen; rw [h.mp.len]
theorem olost {b : ReorderBuffer} {x : RBf} (h : Rel b x) : gReorderBufferLost b = some x.fLost := by unfold gReorderBufferLost; rw [h.lo]

theorem inv_at {mo wa n lo : Int} {be : Bool} {L : List Thg} (hu : Up n L) (h0 : 0 ≤ n) (h1 : n ≤ 1000000) (hl : lo = 0) (hm0 : 1 ≤ mo) (hm1 : mo ≤ 1024) (ha : ∀ t ∈ L, t.fAt ≤ 100000 ∧ t.fTick = 0) (hL : lenL L ≤ mo) (hb : be = false → L = [] ∧ n = 0) : Inv ⟨mo, wa, be, n, L, lo⟩ :=
  ⟨⟨hu, h0, by simp only; omega, by simp only; omega, by simp only; omega, fun t ht => by obtain ⟨q1, q2⟩ := ha t ht; exact ⟨by omega, by omega, by omega⟩, by simp only; rw [lenL_def] at hL; omega⟩, hm0, hm1, hL, hb⟩

theorem from_up {n : Int} : ∀ {L : List Thg} {m : Int}, From m L → n < m → Up n L
  | [], _, _, _ => trivial
  | t :: r, m, h, hn => ⟨by rw [h.1]; exact hn, by rw [h.1]; exact from_up h.2 (by omega)⟩

theorem reorderNone_true (n gap : Int) : gLaw09ReorderNone n gap = some true := by
  have hn : 0 ≤ n % 32 ∧ n % 32 < 32 := ⟨Int.emod_nonneg _ (by omega), Int.emod_lt_of_pos _ (by omega)⟩
  have hg : 0 ≤ gap % 16 ∧ gap % 16 < 16 := ⟨Int.emod_nonneg _ (by omega), Int.emod_lt_of_pos _ (by omega)⟩
  generalize hN : n % 32 = N at hn
  generalize hG : gap % 16 = G at hg
  have e1 : addI .i64 (bitsOp .and .i64 n 31) 1 = N + 1 := by rw [and31', hN, addI_n (by omega) (by omega)]
  have e2 : addI .i64 1 (bitsOp .and .i64 gap 15) = 1 + G := by rw [and15', hG, addI_n (by omega) (by omega)]
  unfold gLaw09ReorderNone
  rw [awake_ok]
  simp only [bind_so, notB_t, cond_false]
  rw [new_ok (by decide) (by decide) (by decide) (by decide)]
  simp only [bind_so, optC_some, neI_f rfl, cond_false]
  -- what comes in its order
  obtain ⟨t, ht, b, hrel, rfl⟩ := loop_ends (body := gLaw09ReorderNone.loop2 n)
    (fun s => ∃ (i : Nat) (b : ReorderBuffer) (be : Bool), s.1 = (i : Int) ∧ (i : Int) ≤ N + 1 ∧ s.2 = (b.fOf, b.fConfig, b.fBegun, b.fNext, b.fLost) ∧ Rel b ⟨50, 9, be, i, [], 0⟩ ∧ (be = false → i = 0) ∧ (0 < i → be = true))
    (fun t => ∃ b : ReorderBuffer, Rel b ⟨50, 9, true, N + 1, [], 0⟩ ∧ t = .go (b.fOf, b.fConfig, b.fBegun, b.fNext, b.fLost)) (fun s => (N + 1 - s.1).toNat)
    (fun s ⟨i, b, be, q1, q2, q3, q4, q5, q6⟩ => by
      obtain ⟨s1, rest⟩ := s
      simp only at q1 q3
      subst q1; subst q3
      unfold gLaw09ReorderNone.loop2
      rw [e1]
      by_cases hi : (i : Int) < N + 1
      · rw [ltI_t hi]
        simp only [cond_true]
        have hinv : Inv ⟨50, 9, be, (i : Int), [], 0⟩ := inv_at trivial (by omega) (by omega) rfl (by decide) (by decide) (fun t ht => by cases ht) (by simp) (fun e => ⟨rfl, by rw [q5 e]; rfl⟩)
        obtain ⟨b', p1, p2⟩ := oput q4 hinv (good_of (k := (i : Int)) (by omega) (by omega))
        rw [put_next 50 9 0 (i : Int) be _ rfl (by decide)] at p1 p2
        have eb : (ReorderBuffer.mk b.fConfig b.fBegun b.fNext b.fOf b.fLost) = b := rfl
        rw [eb, p1]
        simp only [bind_so, neI_f rfl, pickB_f, lenL_cons, lenL_nil, Int.zero_add, olen p2, Option.isSome_some, getD_so]
        rw [need_t (under_of trivial)]
        simp only [cond_false]
        rw [addI_n (by omega) (by omega)]
        refine ⟨⟨i + 1, b', true, by simp, by simp only [Int.natCast_add, Int.natCast_one]; omega, rfl, by simpa using p2, (fun e => by cases e), fun _ => rfl⟩, by simp only; omega⟩
      · rw [ltI_f hi]
        have hiN : (i : Int) = N + 1 := by omega
        have hbe : be = true := q6 (by omega)
        subst hbe
        rw [hiN] at q4
        exact ⟨b, q4, rfl⟩)
    (0, [], ⟨50, 9⟩, false, 0, 0) ⟨0, ReorderBuffer.mk ⟨50, 9⟩ false 0 [] 0, false, rfl, by simp only [Int.natCast_zero]; omega, rfl, newS_rel 50 9, fun _ => rfl, fun h => absurd h (by omega)⟩
  rw [ht]
  simp only [bind_so, flC_go]
  rw [e1, e2, addI_n (a := N + 1) (b := 1 + G) (by omega) (by omega)]
  have eb : (ReorderBuffer.mk b.fConfig b.fBegun b.fNext b.fOf b.fLost) = b := rfl
  rw [eb]
  have i1 : Inv ⟨50, 9, true, N + 1, [], 0⟩ := inv_at trivial (by omega) (by omega) rfl (by decide) (by decide) (fun t ht => by cases ht) (by simp) (fun e => by cases e)
  obtain ⟨b1, p1, r1⟩ := oput hrel i1 (good_of (k := N + 1 + (1 + G)) (by omega) (by omega))
  rw [put_early 50 9 0 (N + 1) (N + 1 + (1 + G) + 1) [] _ trivial (by simp only; omega) (by simp only; omega) (by simp)] at p1 r1
  simp only at r1
  rw [p1]
  simp only [bind_so]
  have i2 : Inv ⟨50, 9, true, N + 1, [Antiphonref09Thing.mk (N + 1 + (1 + G)) ⟨#[]⟩ 0], 0⟩ := inv_at ⟨by simp only; omega, trivial⟩ (by omega) (by omega) rfl (by decide) (by decide) (fun t ht => by
    simp only [List.mem_singleton] at ht
    subst ht
    exact ⟨by simp only; omega, rfl⟩) (by simp [lenL]) (fun e => by cases e)
  rw [omissing r1 i2.toOk (by decide) (by decide)]
  have hmiss : missS 99 (N + 1) [] [Antiphonref09Thing.mk (N + 1 + (1 + G)) ⟨#[]⟩ 0] = (List.range (1 + G).toNat).map fun (j : Nat) => N + 1 + (j : Int) := by
    simp only [missS]
    rw [fill_all 99 _ _ _ (by simp only [lenL_nil]; omega), show (N + 1 + (1 + G) - (N + 1)) = 1 + G by omega]
    rfl
  rw [hmiss]
  have hlen : lenL ((List.range (1 + G).toNat).map fun (j : Nat) => N + 1 + (j : Int)) = 1 + G := by
    simp only [lenL_def, List.length_map, List.length_range]; omega
  have hnth : ∀ j : Int, 0 ≤ j → j < 1 + G → nthI ((List.range (1 + G).toNat).map fun (j : Nat) => N + 1 + (j : Int)) j = N + 1 + j := fun j h0 h1 => by
    have : j.toNat < (1 + G).toNat := by omega
    simp [nthI, this]; omega
  simp only [bind_so, hlen, lenL_nil, neI_f rfl, pickB_f]
  rw [need_t (under_of ⟨by omega, by omega⟩), hnth 0 (by omega) (by omega), subI_n (a := 1 + G) (b := 1) (by omega) (by omega), need_t (under_of ⟨by omega, by omega⟩), hnth (1 + G - 1) (by omega) (by omega), subI_n (by omega) (by omega), neI_f (by omega), neI_f (by omega)]
  simp only [pickB_f, cond_false]
  -- the gap is closed from behind
  obtain ⟨t, ht2, b2, L, hrel2, hF, hLl, hLt, rfl⟩ := loop_ends (body := gLaw09ReorderNone.loop3 n)
    (fun s => ∃ (b : ReorderBuffer) (L : List Thg), 0 ≤ s.1 ∧ s.1 ≤ G ∧ s.2 = (b.fOf, b.fConfig, b.fBegun, b.fNext, b.fLost) ∧ Rel b ⟨50, 9, true, N + 1, L, 0⟩ ∧ From (N + 1 + s.1 + 1) L ∧ lenL L = G + 1 - s.1 ∧ ∀ t ∈ L, t.fAt ≤ 100000 ∧ t.fTick = 0)
    (fun t => ∃ (b : ReorderBuffer) (L : List Thg), Rel b ⟨50, 9, true, N + 1, L, 0⟩ ∧ From (N + 1 + 1) L ∧ lenL L = G + 1 ∧ (∀ t ∈ L, t.fAt ≤ 100000 ∧ t.fTick = 0) ∧ t = .go (b.fOf, b.fConfig, b.fBegun, b.fNext, b.fLost)) (fun s => s.1.toNat)
    (fun s ⟨b, L, q1, q2, q3, q4, q5, q6, q7⟩ => by
      obtain ⟨i, rest⟩ := s
      simp only at q1 q2 q3 q5 q6
      subst q3
      unfold gLaw09ReorderNone.loop3
      rw [e1]
      by_cases hi : 0 < i
      · rw [ltI_t hi]
        simp only [cond_true]
        rw [addI_n (a := N + 1) (b := i) (by omega) (by omega)]
        have hinv : Inv ⟨50, 9, true, N + 1, L, 0⟩ := inv_at (from_up q5 (by omega)) (by omega) (by omega) rfl (by decide) (by decide) q7 (by omega) (fun e => by cases e)
        obtain ⟨b', p1, p2⟩ := oput q4 hinv (good_of (k := N + 1 + i) (by omega) (by omega))
        rw [put_early 50 9 0 (N + 1) (N + 1 + i + 1) L _ q5 (by simp only; omega) (by simp only; omega) (by rw [lenL_def] at q6; omega)] at p1 p2
        have eb : (ReorderBuffer.mk b.fConfig b.fBegun b.fNext b.fOf b.fLost) = b := rfl
        rw [eb, p1]
        simp only [bind_so, lenL_nil, neI_f rfl, cond_false]
        rw [subI_n (by omega) (by omega)]
        refine ⟨⟨b', _, by simp only; omega, by simp only; omega, rfl, p2, ⟨by simp only; omega, by simp only; rw [show N + 1 + (i - 1) + 1 + 1 = N + 1 + i + 1 by omega]; exact q5⟩, by simp only [lenL_cons]; omega, fun t ht => ?_⟩, by simp only; omega⟩
        cases ht with
        | head => exact ⟨by simp only; omega, rfl⟩
        | tail _ ht => exact q7 t ht
      · rw [ltI_f hi]
        have : i = 0 := by omega
        subst this
        exact ⟨b, L, q4, by simpa using q5, by omega, q7, rfl⟩)
    (1 + G - 1, b1.fOf, b1.fConfig, b1.fBegun, b1.fNext, b1.fLost)
    ⟨b1, [Antiphonref09Thing.mk (N + 1 + (1 + G)) ⟨#[]⟩ 0], by simp only; omega, by simp only; omega, rfl, r1, ⟨by simp only; omega, trivial⟩, by simp only [lenL_cons, lenL_nil]; omega, fun t ht => by
      simp only [List.mem_singleton] at ht
      subst ht
      exact ⟨by simp only; omega, rfl⟩⟩
  rw [ht2]
  simp only [bind_so, flC_go]
  have eb2 : (ReorderBuffer.mk b2.fConfig b2.fBegun b2.fNext b2.fOf b2.fLost) = b2 := rfl
  rw [eb2]
  have i3 : Inv ⟨50, 9, true, N + 1, L, 0⟩ := inv_at (from_up hF (by omega)) (by omega) (by omega) rfl (by decide) (by decide) hLt (by omega) (fun e => by cases e)
  obtain ⟨b3, p3, r3⟩ := oput hrel2 i3 (good_of (k := N + 1) (by omega) (by omega))
  rw [put_close 50 9 0 (N + 1) L _ hF rfl (by decide)] at p3 r3
  rw [p3]
  simp only [bind_so, olen r3, olost r3, Option.isSome_some, getD_so, lenL_cons, hLl, lenL_nil, eqI_t rfl, pickB_tf]
  rw [need_t (under_of trivial), need_t (under_of trivial), addI_n (by omega) (by omega), eqI_t (by omega)]
end Go.Proofs
