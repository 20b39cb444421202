/- What these functions compute, as plain functions. No condition. -/
import Derived.Test.YtbijdlgffebenaaGreatTs
import Derived.Test.YtbijdlgffebenaaGreatM06
import Derived.Test.YtbijdlgffebenaaGreatM05
import Derived.Test.YtbijdlgffebenaaGreatM03
section
namespace Go.Proofs
open Go.Ab
noncomputable def gn.loop2 (x0 : Int) (x1 : List Int) (s1 : Int × List Tb) (s2 : Int × List Tb) : Option (Fl (Int × List Tb) (Fl (List Tb) (Fl (Int × List Tb) (Fl (List Tb) (List Tb))))) :=
 bif (ltI s2.1 (addI .i64 1 (bitsOp .and .i64 (nthI x1 s1.1) 3))) then (
  (gap).bind fun r1 =>
  ((
   need (NonZ 3) <|
   bif (eqI (remI s1.1 3) 0) then (
    some (.go 0)
   ) else (
    some (.go 1)
   )
   : Option (Fl Int (Fl (Int × List Tb) (Fl (List Tb) (Fl (Int × List Tb) (Fl (List Tb) (List Tb))))))).bind fun f => flC f fun (v3 : Int) =>
   ((gai (Te.mk r1.fI (eqI s2.1 0) r1.fD r1.fB r1.fR r1.fG r1.fH r1.fQ r1.fJ))).bind fun r2 =>
   need (CatB r2 (strOfNums [v3, (cvtI .u8 s1.1), (cvtI .u8 s2.1)])) <|
   need (AppB (lenL s2.2) 1 88) <|
   some (.go ((addI .i64 s2.1 1), (appL s2.2 [(Tb.mk (eqI s2.1 (subI .i64 (addI .i64 1 (bitsOp .and .i64 (nthI x1 s1.1) 3)) 1)) 96 (addI .u16 x0 (cvtI .u16 (lenL s2.2))) (cvtI .u32 (mulI .i64 3000 s1.1)) 7 [] false 0 ⟨#[]⟩ (catS r2 (strOfNums [v3, (cvtI .u8 s1.1), (cvtI .u8 s2.1)])) 0)])))
  )
 ) else (
  some (.out (.go s2.2))
 )

noncomputable def gn.loop1 (x0 : Int) (x1 : List Int) (s1 : Int × List Tb) : Option (Fl (Int × List Tb) (Fl (List Tb) (List Tb))) :=
 bif (pickB (ltI s1.1 (lenL x1)) (ltI (lenL s1.2) 56) false) then (
  need (InB s1.1 (lenL x1)) <|
  ((loopF (gn.loop2 x0 x1 s1) (0, s1.2)).bind fun f => flC f fun (v2 : List Tb) =>
   some (.go ((addI .i64 s1.1 1), v2))
  )
 ) else (
  some (.out (.go s1.2))
 )

noncomputable def gn (x0 : Int) (x1 : List Int) : Option (List Tb) :=
 ((loopF (gn.loop1 x0 x1) (0, [])).bind fun f => flC f fun (v1 : List Tb) =>
  some v1
 )

noncomputable def gam (x0 : Bool) (x1 : Int) (x2 : Int) (x3 : Int) : Option Ty :=
 need (NonZ 40) <|
 some (Ty.mk (Tt.mk (addI .i64 1 (remI (bitsOp .and .i64 x1 255) 40)) (bitsOp .and .i64 x2 31)) (Tu.mk x0 400 (addI .i64 1 (bitsOp .and .i64 x3 7)) (bitsOp .and .i64 x2 31)))

noncomputable def gat (x0 : Ty) : Option (Option Tf × Td × Bool) :=
 ((gan x0)).bind fun r1 =>
 optC r1.1 (
  some (none, (Td.mk (Tv.mk false 0 (-1) 0 0) (-1) (Tg.mk x0.fm.fk x0.fm.fp false 0 [] 0) (Ts.mk x0.fM.fu x0.fM.fw x0.fM.fj x0.fM.fp [] 0 0) [] 0 0), (pickB (eqI r1.2 0) false false))
 ) fun o1 => (
  some ((some o1), (Td.mk (Tv.mk false 0 (-1) 0 0) (-1) (Tg.mk x0.fm.fk x0.fm.fp false 0 [] 0) (Ts.mk x0.fM.fu x0.fM.fw x0.fM.fj x0.fM.fp [] 0 0) [] 0 0), (pickB (eqI r1.2 0) true false))
 )

noncomputable def gD.loop2 (x0 : List Tl) (x1 : List (List Tc)) (s1 : Int) (s2 : Int) : Option (Fl Int (Fl Unit (Fl Int (Fl Unit Int)))) :=
 bif (ltI s2 (lenL (nthI x1 s1))) then (
  need (InB s1 (lenL x0)) <|
  need (InB s2 (lenL ((nthI x0 s1).fj))) <|
  need (InB s1 (lenL x1)) <|
  need (InB s2 (lenL (nthI x1 s1))) <|
  bif (notB (pickB (eqI ((nthI ((nthI x0 s1).fj) s2).fAt) ((nthI (nthI x1 s1) s2).fAt)) (pickB (eqI ((nthI ((nthI x0 s1).fj) s2).fT) ((nthI (nthI x1 s1) s2).fT)) (pickB (eqB ((nthI ((nthI x0 s1).fj) s2).fC) ((nthI (nthI x1 s1) s2).fC)) (pickB (eqB ((nthI ((nthI x0 s1).fj) s2).fz) ((nthI (nthI x1 s1) s2).fz)) (pickB (eqB ((nthI ((nthI x0 s1).fj) s2).fJ) ((nthI (nthI x1 s1) s2).fJ)) (pickB (eqS ((nthI ((nthI x0 s1).fj) s2).fU) ((nthI (nthI x1 s1) s2).fU)) (eqI ((nthI ((nthI x0 s1).fj) s2).fO) ((nthI (nthI x1 s1) s2).fO)) false) false) false) false) false) false)) then (
   some (.out (.out (.out (.out (-1)))))
  ) else (
   some (.go (addI .i64 s2 1))
  )
 ) else (
  some (.out (.go ()))
 )

noncomputable def gD.loop1 (x0 : List Tl) (x1 : List (List Tc)) (s1 : Int) : Option (Fl Int (Fl Unit Int)) :=
 bif (ltI s1 (lenL x1)) then (
  need (InB s1 (lenL x0)) <|
  need (InB s1 (lenL x1)) <|
  bif (neI (lenL ((nthI x0 s1).fj)) (lenL (nthI x1 s1))) then (
   some (.out (.out (-1)))
  ) else (
   need (InB s1 (lenL x1)) <|
   ((loopF (gD.loop2 x0 x1 s1) 0).bind fun f => flC f fun (_v2 : Unit) =>
    some (.go (addI .i64 s1 1))
   )
  )
 ) else (
  some (.out (.go ()))
 )

noncomputable def gD (x0 : List Tl) (x1 : List (List Tc)) : Option Int :=
 bif (neI (lenL x0) (lenL x1)) then (
  some (-1)
 ) else (
  ((loopF (gD.loop1 x0 x1) 0).bind fun f => flC f fun (_v1 : Unit) =>
   some 0
  )
 )

noncomputable def gaE : Option Bool :=
 ((gam true 9 9 9)).bind fun r1 =>
 ((gan r1)).bind fun r2 =>
 optC r2.1 (
  bif (pickB (neI r2.2 0) true true) then (
   some false
  ) else (
   none
  )
 ) fun o1 => (
  bif (pickB (pickB (neI r2.2 0) true false) true false) then (
   some false
  ) else (
   ((gn 5 [1])).bind fun r3 =>
   need (InB 0 (lenL r3)) <|
   ((gr o1 (nthI r3 0) 0)).bind fun r4 =>
   need (InB 1 (lenL r3)) <|
   ((gr r4.2.2 (nthI r3 1) 0)).bind fun r5 =>
   need (InB 0 (lenL r3)) <|
   ((gr r5.2.2 (nthI r3 0) 0)).bind fun r6 =>
   need (Under (pickB (pickB (pickB (eqI (lenL r4.1) 0) (eqI r4.2.1 0) false) (eqI r5.2.1 0) false) (eqI (lenL r5.1) 1) false) true (InB 0 (lenL r5.1))) <|
   need (Under (pickB (pickB (pickB (eqI (lenL r4.1) 0) (eqI r4.2.1 0) false) (eqI r5.2.1 0) false) (eqI (lenL r5.1) 1) false) true ((gJ (nthI r5.1 0)).isSome = true)) <|
   need (Under (pickB (pickB (pickB (pickB (eqI (lenL r4.1) 0) (eqI r4.2.1 0) false) (eqI r5.2.1 0) false) (eqI (lenL r5.1) 1) false) ((gJ (nthI r5.1 0)).getD dflt) false) true (InB 0 (lenL r5.1))) <|
   need (Under (pickB (pickB (pickB (pickB (pickB (pickB (eqI (lenL r4.1) 0) (eqI r4.2.1 0) false) (eqI r5.2.1 0) false) (eqI (lenL r5.1) 1) false) ((gJ (nthI r5.1 0)).getD dflt) false) (eqI (lenL ((nthI r5.1 0).fj)) 2) false) (eqI r6.2.1 13) false) true ((gv r6.2.2).isSome = true)) <|
   some (pickB (pickB (pickB (pickB (pickB (pickB (pickB (eqI (lenL r4.1) 0) (eqI r4.2.1 0) false) (eqI r5.2.1 0) false) (eqI (lenL r5.1) 1) false) ((gJ (nthI r5.1 0)).getD dflt) false) (eqI (lenL ((nthI r5.1 0).fj)) 2) false) (eqI r6.2.1 13) false) (eqI ((gv r6.2.2).getD dflt) 1) false)
  )
 )
end Go.Proofs
end
section
namespace Go.Proofs
open Go.Ab

theorem wrapU8 (n : Int) : IntKind.u8.wrap n = n % 256 := by simp [IntKind.wrap, IntKind.bits, IntKind.signed]
theorem wrapU16 (n : Int) : IntKind.u16.wrap n = n % 65536 := by simp [IntKind.wrap, IntKind.bits, IntKind.signed]
theorem wrapU32 (n : Int) : IntKind.u32.wrap n = n % 4294967296 := by simp [IntKind.wrap, IntKind.bits, IntKind.signed]
theorem wrapU64 (n : Int) : IntKind.u64.wrap n = n % 18446744073709551616 := by simp [IntKind.wrap, IntKind.bits, IntKind.signed]
def u8P (s : ByteArray) (e : Int) : Int × ByteArray × Int :=
  if e ≠ 0 then (0, s, e) else if lenS s < 1 then (0, ⟨#[]⟩, 1) else (idxS s 0, cutS s 1 (lenS s), 0)

theorem idxS_r (s : ByteArray) (n : Int) : 0 ≤ idxS s n ∧ idxS s n < 256 := by
  unfold idxS
  have := (s.data.toList.getD n.toNat 0).toNat_lt
  omega
theorem u8P_r (s : ByteArray) (e : Int) : 0 ≤ (u8P s e).1 ∧ (u8P s e).1 < 256 := by
  unfold u8P
  split
  · exact ⟨Int.le_refl _, by show (0 : Int) < 256; omega⟩
  · split
    · exact ⟨Int.le_refl _, by show (0 : Int) < 256; omega⟩
    · exact idxS_r s 0

theorem cut1 {s : ByteArray} (h : ¬ lenS s < 1) : (cutS s 0 1).data.toList = [s.data.toList.getD 0 0] := by
  unfold lenS at h
  have hs : 0 < s.data.toList.length := by
    have : s.size = s.data.toList.length := by rw [Array.length_toList]; rfl
    omega
  unfold cutS
  have e1 : (s.extract (0 : Int).toNat (1 : Int).toNat).data.toList = (s.data.toList.drop 0).take 1 := by
    simp [ByteArray.data_extract]
  rw [e1]
  match hl : s.data.toList, hs with
  | a :: r, _ => simp

theorem numsOf_cut1 {s : ByteArray} (h : ¬ lenS s < 1) : numsOf (cutS s 0 1) = [idxS s 0] := by
  unfold numsOf
  rw [cut1 h]
  simp [idxS]
theorem lenS_cut1 {s : ByteArray} (h : ¬ lenS s < 1) : lenS (cutS s 0 1) = 1 := by
  have := congrArg List.length (cut1 h)
  simp only [Array.length_toList, List.length_cons, List.length_nil] at this
  show ((cutS s 0 1).data.size : Int) = 1
  omega
theorem idxS_cut1 {s : ByteArray} (h : ¬ lenS s < 1) : idxS (cutS s 0 1) 0 = idxS s 0 := by
  unfold idxS
  rw [cut1 h]; rfl

theorem obytes1 (s : ByteArray) (e : Int) : gz ⟨s, e⟩ 1 = some (if e ≠ 0 then (⟨#[]⟩, ⟨s, e⟩) else if lenS s < 1 then (⟨#[]⟩, ⟨⟨#[]⟩, 1⟩) else (cutS s 0 1, ⟨cutS s 1 (lenS s), 0⟩)) := by
  unfold gz gV
  simp only [neI_d]
  by_cases he : e = 0
  · subst he
    rw [show (decide ((0 : Int) ≠ 0)) = false from rfl, cond_false, if_neg (by simp), show ltI 1 0 = false from rfl, cond_false, ltI_d]
    by_cases hl : lenS s < 1
    · rw [decide_eq_true hl, cond_true, if_pos hl]; rfl
    · rw [decide_eq_false hl, cond_false, if_neg hl, Lk ⟨by decide, by omega, by omega⟩, Lk ⟨by omega, by omega, by omega⟩]
  · rw [decide_eq_true he, cond_true, if_pos he]

theorem onum_nil (r : ByteArray × Tq) (h : r.1 = ⟨#[]⟩) : loopF (gt.loop1 r) (0, 0) = some (.go 0) := by
  rw [loopF_eq]
  unfold gt.loop1
  rw [h]; rfl
theorem onum_one (r : ByteArray × Tq) {b : Int} (h : numsOf r.1 = [b]) (h0 : 0 ≤ b) (h1 : b < 256) : loopF (gt.loop1 r) (0, 0) = some (.go b) := by
  have s1 : gt.loop1 r (0, 0) = some (.go (1, b)) := by
    unfold gt.loop1
    rw [h]
    have e1 : ltI (0 : Int) (lenL [b]) = true := rfl
    simp only [e1, cond_true]
    rw [Lk (show InB 0 (lenL [b]) from ⟨Int.le_refl _, by show (0 : Int) < 1; omega⟩), Lk (show NonN 8 by decide)]
    have e2 : bitsOp .or .u64 (shlI .u64 0 8) (cvtI .u64 (nthI [b] 0)) = b := by
      have hn : nthI [b] 0 = b := rfl
      have hs : shlI .u64 0 8 = 0 := by decide
      rw [hn, hs]
      unfold cvtI bitsOp
      simp only [wrapU64]
      rw [Int.emod_eq_of_lt h0 (by omega)]
      show (((BitVec.ofInt 64 0 ||| BitVec.ofInt 64 b).toNat : Nat) : Int) % 18446744073709551616 = b
      have : BitVec.ofInt 64 0 ||| BitVec.ofInt 64 b = BitVec.ofInt 64 b := by simp
      rw [this, BitVec.toNat_ofInt]
      omega
    rw [e2]; rfl
  rw [loopF_eq, s1]
  dsimp only
  rw [loopF_eq]
  unfold gt.loop1
  rw [h]; rfl

theorem ou8 (s : ByteArray) (e : Int) : gH ⟨s, e⟩ = some ((u8P s e).1, ⟨(u8P s e).2.1, (u8P s e).2.2⟩) := by
  unfold gH gt
  have hm : minI (maxI 1 1) 8 = 1 := by decide
  rw [hm, obytes1, Ld]
  have c0 : cvtI .u8 0 = 0 := by decide
  unfold u8P
  split
  · rw [onum_nil _ rfl]; simp [c0]
  · split
    · rw [onum_nil _ rfl]; simp [c0]
    · rename_i hl
      have hr := idxS_r s 0
      rw [onum_one _ (numsOf_cut1 hl) hr.1 hr.2]
      simp only [Ld, flC_go]
      rw [show cvtI .u8 (idxS s 0) = idxS s 0 from by unfold cvtI; rw [wrapU8]; omega]

theorem rvalue_nil (x : ByteArray) (h : x = ⟨#[]⟩) : gP x = some 0 := by
  subst h
  unfold gP
  rw [loopF_eq]; rfl
theorem rvalue_one {s : ByteArray} (h : ¬ lenS s < 1) : gP (cutS s 0 1) = some (idxS s 0) := by
  have hr := idxS_r s 0
  unfold gP
  have s1 : gP.loop1 (cutS s 0 1) (0, 0) = some (.go (1, idxS s 0)) := by
    unfold gP.loop1
    rw [lenS_cut1 h]
    have e1 : ltI (0 : Int) 1 = true := rfl
    simp only [e1, cond_true]
    rw [Lk (show InB 0 1 by decide), idxS_cut1 h]
    have e2 : addI .u64 (mulI .u64 0 256) (cvtI .u64 (idxS s 0)) = idxS s 0 := by
      unfold addI mulI cvtI
      simp only [wrapU64]
      omega
    rw [e2]; rfl
  have s2 : gP.loop1 (cutS s 0 1) (1, idxS s 0) = some (.out (.go (idxS s 0))) := by
    unfold gP.loop1
    rw [lenS_cut1 h]; rfl
  rw [loopF_eq, s1]
  dsimp only
  rw [loopF_eq, s2]
  rfl

theorem rtake (s : ByteArray) (e : Int) : gal ⟨s, e⟩ 1 = some (⟨(u8P s e).2.1, (u8P s e).2.2⟩, (u8P s e).1) := by
  unfold gal gaw
  have hm : minI (maxI 1 1) 8 = 1 := by decide
  rw [hm]
  simp only [neI_d]
  unfold u8P
  by_cases he : e = 0
  · subst he
    rw [show (decide ((0 : Int) ≠ 0)) = false from rfl, cond_false, if_neg (by simp), show ltI 1 0 = false from rfl, cond_false, ltI_d]
    by_cases hl : lenS s < 1
    · rw [decide_eq_true hl, cond_true, if_pos hl, Ld, rvalue_nil _ rfl]; rfl
    · rw [decide_eq_false hl, cond_false, if_neg hl, Lk ⟨by omega, by omega, by omega⟩, Lk ⟨by decide, by omega, by omega⟩, Ld, rvalue_one hl]; rfl
  · rw [decide_eq_true he, cond_true, if_pos he, Ld, rvalue_nil _ rfl]; rfl

theorem byteD {p : Int → Prop} (h : ∀ n : Fin 256, p (n.val : Int)) {b : Int} (h0 : 0 ≤ b) (h1 : b < 256) : p b := by
  have := h ⟨b.toNat, by omega⟩
  simp only at this
  rwa [Int.toNat_of_nonneg h0] at this
end Go.Proofs
end
