/- What these functions compute, as plain functions. No condition. -/
import Derived.Test.YtbijdlgffebenaaTs
import Derived.Test.YtbijdlgffebenaaQ09
import Derived.Test.YtbijdlgffebenaaQ05
import Derived.Test.YtbijdlgffebenaaQ01
section
namespace Go.Proofs
open Go.Ab
noncomputable def gj.loop2 (x0 : Int) (x1 : List Int) (s1 : Int × List Tb) (s2 : Int × List Tb) : Option (Fl (Int × List Tb) (Fl (List Tb) (Fl (Int × List Tb) (Fl (List Tb) (List Tb))))) :=
 bif (ltI s2.1 (addI .i64 1 (bitsOp .and .i64 (nthI x1 s1.1) 3))) then (
  (gac).bind fun r1 =>
  ((
   need (NonZ 3) <|
   bif (eqI (remI s1.1 3) 0) then (
    some (.go 0)
   ) else (
    some (.go 1)
   )
   : Option (Fl Int (Fl (Int × List Tb) (Fl (List Tb) (Fl (Int × List Tb) (Fl (List Tb) (List Tb))))))).bind fun f => flC f fun (v3 : Int) =>
   ((gab (Td.mk r1.fK (eqI s2.1 0) r1.fG r1.fB r1.fU r1.fH r1.fI r1.fR r1.fJ))).bind fun r2 =>
   need (CatB r2 (strOfNums [v3, (cvtI .u8 s1.1), (cvtI .u8 s2.1)])) <|
   need (AppB (lenL s2.2) 1 88) <|
   some (.go ((addI .i64 s2.1 1), (appL s2.2 [(Tb.mk (eqI s2.1 (subI .i64 (addI .i64 1 (bitsOp .and .i64 (nthI x1 s1.1) 3)) 1)) 96 (addI .u16 x0 (cvtI .u16 (lenL s2.2))) (cvtI .u32 (mulI .i64 3000 s1.1)) 7 [] false 0 ⟨#[]⟩ (catS r2 (strOfNums [v3, (cvtI .u8 s1.1), (cvtI .u8 s2.1)])) 0)])))
  )
 ) else (
  some (.out (.go s2.2))
 )

noncomputable def gj.loop1 (x0 : Int) (x1 : List Int) (s1 : Int × List Tb) : Option (Fl (Int × List Tb) (Fl (List Tb) (List Tb))) :=
 bif (pickB (ltI s1.1 (lenL x1)) (ltI (lenL s1.2) 56) false) then (
  need (InB s1.1 (lenL x1)) <|
  ((loopF (gj.loop2 x0 x1 s1) (0, s1.2)).bind fun f => flC f fun (v2 : List Tb) =>
   some (.go ((addI .i64 s1.1 1), v2))
  )
 ) else (
  some (.out (.go s1.2))
 )

noncomputable def gj (x0 : Int) (x1 : List Int) : Option (List Tb) :=
 ((loopF (gj.loop1 x0 x1) (0, [])).bind fun f => flC f fun (v1 : List Tb) =>
  some v1
 )

noncomputable def gU (x0 : Bool) (x1 : Int) (x2 : Int) (x3 : Int) : Option Tu :=
 need (NonZ 40) <|
 some (Tu.mk (Tk.mk (addI .i64 1 (remI (bitsOp .and .i64 x1 255) 40)) (bitsOp .and .i64 x2 31)) (Tp.mk x0 400 (addI .i64 1 (bitsOp .and .i64 x3 7)) (bitsOp .and .i64 x2 31)))

noncomputable def gad (x0 : Tu) : Option (Option Tf × Te × Bool) :=
 ((gY x0)).bind fun r1 =>
 optC r1.1 (
  some (none, (Te.mk (Tw.mk false 0 (-1) 0 0) (-1) (Tn.mk x0.fo.fk x0.fo.fq false 0 [] 0) (Tq.mk x0.fD.fu x0.fD.fv x0.fD.fj x0.fD.fq [] 0 0) [] 0 0), (pickB (eqI r1.2 0) false false))
 ) fun o1 => (
  some ((some o1), (Te.mk (Tw.mk false 0 (-1) 0 0) (-1) (Tn.mk x0.fo.fk x0.fo.fq false 0 [] 0) (Tq.mk x0.fD.fu x0.fD.fv x0.fD.fj x0.fD.fq [] 0 0) [] 0 0), (pickB (eqI r1.2 0) true false))
 )

noncomputable def gaq.loop2 (x0 : List Tl) (x1 : List (List Tc)) (s1 : Int) (s2 : Int) : Option (Fl Int (Fl Unit (Fl Int (Fl Unit Int)))) :=
 bif (ltI s2 (lenL (nthI x1 s1))) then (
  need (InB s1 (lenL x0)) <|
  need (InB s2 (lenL ((nthI x0 s1).fj))) <|
  need (InB s1 (lenL x1)) <|
  need (InB s2 (lenL (nthI x1 s1))) <|
  bif (notB (pickB (eqI ((nthI ((nthI x0 s1).fj) s2).fAt) ((nthI (nthI x1 s1) s2).fAt)) (pickB (eqI ((nthI ((nthI x0 s1).fj) s2).fQ) ((nthI (nthI x1 s1) s2).fQ)) (pickB (eqB ((nthI ((nthI x0 s1).fj) s2).fA) ((nthI (nthI x1 s1) s2).fA)) (pickB (eqB ((nthI ((nthI x0 s1).fj) s2).fy) ((nthI (nthI x1 s1) s2).fy)) (pickB (eqB ((nthI ((nthI x0 s1).fj) s2).fJ) ((nthI (nthI x1 s1) s2).fJ)) (pickB (eqS ((nthI ((nthI x0 s1).fj) s2).fT) ((nthI (nthI x1 s1) s2).fT)) (eqI ((nthI ((nthI x0 s1).fj) s2).fO) ((nthI (nthI x1 s1) s2).fO)) false) false) false) false) false) false)) then (
   some (.out (.out (.out (.out (-1)))))
  ) else (
   some (.go (addI .i64 s2 1))
  )
 ) else (
  some (.out (.go ()))
 )

noncomputable def gaq.loop1 (x0 : List Tl) (x1 : List (List Tc)) (s1 : Int) : Option (Fl Int (Fl Unit Int)) :=
 bif (ltI s1 (lenL x1)) then (
  need (InB s1 (lenL x0)) <|
  need (InB s1 (lenL x1)) <|
  bif (neI (lenL ((nthI x0 s1).fj)) (lenL (nthI x1 s1))) then (
   some (.out (.out (-1)))
  ) else (
   need (InB s1 (lenL x1)) <|
   ((loopF (gaq.loop2 x0 x1 s1) 0).bind fun f => flC f fun (_v2 : Unit) =>
    some (.go (addI .i64 s1 1))
   )
  )
 ) else (
  some (.out (.go ()))
 )

noncomputable def gaq (x0 : List Tl) (x1 : List (List Tc)) : Option Int :=
 bif (neI (lenL x0) (lenL x1)) then (
  some (-1)
 ) else (
  ((loopF (gaq.loop1 x0 x1) 0).bind fun f => flC f fun (_v1 : Unit) =>
   some 0
  )
 )

noncomputable def gai : Option Bool :=
 ((gU true 9 9 9)).bind fun r1 =>
 ((gY r1)).bind fun r2 =>
 optC r2.1 (
  bif (pickB (neI r2.2 0) true true) then (
   some false
  ) else (
   none
  )
 ) fun o1 => (
  bif (pickB (pickB (neI r2.2 0) true false) true false) then (
   some false
  ) else (
   ((gj 5 [1])).bind fun r3 =>
   need (InB 0 (lenL r3)) <|
   ((gl o1 (nthI r3 0) 0)).bind fun r4 =>
   need (InB 1 (lenL r3)) <|
   ((gl r4.2.2 (nthI r3 1) 0)).bind fun r5 =>
   need (InB 0 (lenL r3)) <|
   ((gl r5.2.2 (nthI r3 0) 0)).bind fun r6 =>
   need (Under (pickB (pickB (pickB (eqI (lenL r4.1) 0) (eqI r4.2.1 0) false) (eqI r5.2.1 0) false) (eqI (lenL r5.1) 1) false) true (InB 0 (lenL r5.1))) <|
   need (Under (pickB (pickB (pickB (eqI (lenL r4.1) 0) (eqI r4.2.1 0) false) (eqI r5.2.1 0) false) (eqI (lenL r5.1) 1) false) true ((gG (nthI r5.1 0)).isSome = true)) <|
   need (Under (pickB (pickB (pickB (pickB (eqI (lenL r4.1) 0) (eqI r4.2.1 0) false) (eqI r5.2.1 0) false) (eqI (lenL r5.1) 1) false) ((gG (nthI r5.1 0)).getD dflt) false) true (InB 0 (lenL r5.1))) <|
   need (Under (pickB (pickB (pickB (pickB (pickB (pickB (eqI (lenL r4.1) 0) (eqI r4.2.1 0) false) (eqI r5.2.1 0) false) (eqI (lenL r5.1) 1) false) ((gG (nthI r5.1 0)).getD dflt) false) (eqI (lenL ((nthI r5.1 0).fj)) 2) false) (eqI r6.2.1 13) false) true ((gA r6.2.2).isSome = true)) <|
   some (pickB (pickB (pickB (pickB (pickB (pickB (pickB (eqI (lenL r4.1) 0) (eqI r4.2.1 0) false) (eqI r5.2.1 0) false) (eqI (lenL r5.1) 1) false) ((gG (nthI r5.1 0)).getD dflt) false) (eqI (lenL ((nthI r5.1 0).fj)) 2) false) (eqI r6.2.1 13) false) (eqI ((gA r6.2.2).getD dflt) 1) false)
  )
 )
end Go.Proofs
end
section
namespace Go.Proofs
open Go.Ab

def sizeN : List Tc → Int
  | [] => 0
  | u :: r => lenS u.fT + sizeN r
theorem lenS_nn (s : ByteArray) : 0 ≤ lenS s := by unfold lenS; omega
theorem sizeN_nn : ∀ us, 0 ≤ sizeN us
  | [] => by simp [sizeN]
  | u :: r => by have := sizeN_nn r; have := lenS_nn u.fT; unfold sizeN; omega
theorem sizeN_app (a b : List Tc) : sizeN (a ++ b) = sizeN a + sizeN b := by
  induction a with
  | nil => simp [sizeN]
  | cons u r ih => simp only [List.cons_append, sizeN, ih]; omega

def sizeI (us : List Tc) (s : Int × Int) : Prop := 0 ≤ s.1 ∧ s.1 ≤ lenL us ∧ s.2 = sizeN (us.take s.1.toNat)
theorem take_snoc (us : List Tc) (i : Int) (h0 : 0 ≤ i) (h : i < lenL us) : us.take (i + 1).toNat = us.take i.toNat ++ [nthI us i] := by
  unfold lenL at h
  have e : (i + 1).toNat = i.toNat + 1 := by omega
  rw [e, List.take_succ_eq_append_getElem (by omega)]
  unfold nthI
  rw [List.getD_eq_getElem?_getD, List.getElem?_eq_getElem (by omega)]
  rfl
theorem sizeN_take (us : List Tc) (n : Nat) : sizeN (us.take n) ≤ sizeN us := by
  have h := sizeN_app (us.take n) (us.drop n)
  rw [List.take_append_drop] at h
  have := sizeN_nn (us.drop n)
  omega
theorem size_round (us : List Tc) (hb : sizeN us < 9223372036854775808) (hl : lenL us < 9223372036854775807) (s : Int × Int) (hI : sizeI us s) :
    RoundP (sizeI us) (fun t : Fl Int Int => t = .go (sizeN us)) (fun s => (lenL us - s.1).toNat) s (gn.loop1 ⟨us⟩ s) := by
  obtain ⟨i, n⟩ := s
  obtain ⟨h0, h1, h2⟩ := hI
  simp only at h0 h1 h2
  unfold gn.loop1
  dsimp only
  by_cases hc : i < lenL us
  case neg =>
    rw [ltI_d, decide_eq_false hc, cond_false]
    show Fl.go n = Fl.go _
    rw [h2, List.take_of_length_le (by unfold lenL at hc; omega)]
  rw [show ltI i (lenL us) = true from decide_eq_true hc, cond_true, Le (show InB i (lenL us) from ⟨h0, hc⟩)]
  have e := take_snoc us i h0 hc
  have e2 := sizeN_app (us.take i.toNat) [nthI us i]
  rw [← e] at e2
  have e3 : sizeN [nthI us i] = lenS (nthI us i).fT := by simp [sizeN]
  have e4 := sizeN_take us (i + 1).toNat
  have e5 := sizeN_nn (us.take i.toNat)
  have e6 := lenS_nn (nthI us i).fT
  rw [addI_n (a := i) (by omega) (by omega), addI_n (a := n) (by omega) (by omega)]
  exact ⟨⟨by dsimp only; omega, by dsimp only; omega, by dsimp only; omega⟩, by dsimp only; omega⟩
theorem size_eq (us : List Tc) (hb : sizeN us < 9223372036854775808) (hl : lenL us < 9223372036854775807) : gn ⟨us⟩ = some (sizeN us) := by
  unfold gn
  have hnn : 0 ≤ lenL us := by unfold lenL; omega
  obtain ⟨t, ht, rfl⟩ := loop_ends (sizeI us) _ _ (size_round us hb hl) (0, 0) ⟨by simp, by simpa using hnn, by simp [sizeN]⟩
  rw [ht]; rfl

theorem open_eq (m : Th) : gC m = some (lenL m.fw.fj) := rfl
theorem counts_eq (m : Th) : gJ m = some (m.fz, m.fe) := rfl
theorem put_empty (c : Tp) (w l : Int) (u : Tc) (hl0 : -9223372036854775808 ≤ l) (hl : l < 9223372036854775807) (hu : 1 ≤ c.fj) (hv : c.fu = true → u.fy = true) (hs : lenS u.fT < 9223372036854775808) :
    gV (.mk c ⟨[]⟩ w l) u = some (
      if c.fv < lenS u.fT then (⟨[]⟩, false, .mk c ⟨[]⟩ w (l + 1))
      else if c.fu = true ∧ u.fA = false then (⟨[]⟩, false, .mk c ⟨[u]⟩ w l)
      else (⟨[u]⟩, true, .mk c ⟨[]⟩ (addI .i64 w 1) l)) := by
  unfold gV gF gH
  have e0 : eqI (0 : Int) 0 = true := by decide
  have a0 : addI .i64 l 0 = l := by rw [addI_n (by omega) (by omega)]; omega
  have a1 : addI .i64 l 1 = l + 1 := addI_n (by omega) (by omega)
  have sz : sizeN [u] = lenS u.fT := by simp [sizeN]
  have hv' : pickB c.fu (notB u.fy) false = false := by
    rw [pickB_and, notB_d]
    cases h : c.fu with
    | false => rfl
    | true => rw [hv h]; rfl
  have ap : appL ([] : List Tc) [u] = [u] := rfl
  simp only [open_eq, Lb, lenL_nil, e0, cond_true, notB_t', a0, hv', cond_false, flC_go, ap]
  have l1 : lenL [u] = 1 := by simp
  rw [Le (show AppB 0 0 48 by decide), Le (show AppB 0 1 48 by decide), size_eq [u] (by omega) (by omega), sz, l1]
  simp only [Option.isSome_some, under_true, need_true, getD_so, pickB_or]
  have e1 : ltI c.fj 1 = false := decide_eq_false (by omega)
  rw [e1, Bool.false_or, a1]
  by_cases hb : c.fv < lenS u.fT
  · rw [show ltI c.fv (lenS u.fT) = true from decide_eq_true hb, cond_true, if_pos hb]
  · rw [show ltI c.fv (lenS u.fT) = false from decide_eq_false hb, cond_false, if_neg hb, pickB_and, notB_d]
    cases hv2 : c.fu <;> cases hm : u.fA <;> simp

theorem frame_check (c : Tp) (h : 1 ≤ c.fv ∧ c.fv ≤ 1048576 ∧ 1 ≤ c.fj ∧ c.fj ≤ 1024 ∧ 0 ≤ c.fq ∧ c.fq ≤ 1099511627776) : gy c = some 0 := by
  unfold gy
  simp only [pickB_or, ltI_d]
  have e : (decide (c.fv < 1) || decide (1048576 < c.fv) || decide (c.fj < 1) || decide (1024 < c.fj) || decide (c.fq < 0) || decide (1099511627776 < c.fq)) = false := by
    simp; omega
  rw [e]; rfl
theorem frame_new (c : Tp) (h : 1 ≤ c.fv ∧ c.fv ≤ 1048576 ∧ 1 ≤ c.fj ∧ c.fj ≤ 1024 ∧ 0 ≤ c.fq ∧ c.fq ≤ 1099511627776) : gae c = some (some (.mk c ⟨[]⟩ 0 0), 0) := by
  unfold gae
  rw [frame_check c h]; rfl

theorem mask_n (j : Nat) (hj : j ≤ 62) (a m : Int) (hm : m = 2 ^ j - 1) : ∃ b, bitsOp .and .i64 a m = b ∧ 0 ≤ b ∧ b ≤ m := by
  refine ⟨_, and_mask' (j := j) hj a m hm, Int.emod_nonneg _ (by have := Int.pow_pos (n := 2) (m := j) (by decide); omega), ?_⟩
  have := Int.emod_lt_of_pos a (b := 2 ^ j) (Int.pow_pos (by decide))
  omega
theorem lenS_nums (n x : Int) (h : 0 ≤ n) : lenS (strOfNums (repL n x)) = n := by
  unfold lenS strOfNums repL
  simp [ByteArray.size]
  omega

end Go.Proofs
end
