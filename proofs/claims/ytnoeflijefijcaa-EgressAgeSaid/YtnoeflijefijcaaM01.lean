/- What these functions compute, as plain functions. No condition. -/
import Derived.Test.YtnoeflijefijcaaTs
import Derived.Test.YtnoeflijefijcaaAb9
import Derived.Maps.OwnSet
import Derived.Test.YtnoeflijefijcaaAb5
section
namespace Go.Proofs
open Go.Ab
noncomputable def gas (x0 : Int) : Option Bool :=
 some (neI x0 x0)

noncomputable def gaz (x0 : Int) (x1 : Int) : Option Bool :=
 ((gas x0)).bind fun r1 =>
 need (Under r1 true ((gas x1).isSome = true)) <|
 some (pickB (pickB r1 (notB ((gas x1).getD dflt)) false) true (ltI x0 x1))

noncomputable def gS (x0 : Int) : Option Bool :=
 some (neI x0 x0)

noncomputable def ge.loop1 (x0 : List Int) (x1 : Int) (s1 : Int × Int) : Option (Fl (Int × Int) (Fl Int (Int × Bool))) :=
 bif (ltI s1.1 s1.2) then (
  need (NonN 1) <|
  need (InB (cvtI .i64 (shrI .u64 (cvtI .u64 (addI .i64 s1.1 s1.2)) 1)) (lenL x0)) <|
  ((gaz (nthI x0 (cvtI .i64 (shrI .u64 (cvtI .u64 (addI .i64 s1.1 s1.2)) 1))) x1)).bind fun r1 =>
  bif r1 then (
   some (.go ((addI .i64 (cvtI .i64 (shrI .u64 (cvtI .u64 (addI .i64 s1.1 s1.2)) 1)) 1), s1.2))
  ) else (
   some (.go (s1.1, (cvtI .i64 (shrI .u64 (cvtI .u64 (addI .i64 s1.1 s1.2)) 1))))
  )
 ) else (
  some (.out (.go s1.1))
 )

noncomputable def ge (x0 : List Int) (x1 : Int) : Option (Int × Bool) :=
 ((loopF (ge.loop1 x0 x1) (0, (lenL x0))).bind fun f => flC f fun (v1 : Int) =>
  need (Under (ltI v1 (lenL x0)) true (InB v1 (lenL x0))) <|
  need (Under (eqI (nthI x0 v1) x1) false (Under (ltI v1 (lenL x0)) true (InB v1 (lenL x0)))) <|
  need (Under (eqI (nthI x0 v1) x1) false (Under (ltI v1 (lenL x0)) true ((gS (nthI x0 v1)).isSome = true))) <|
  need (Under ((gS (nthI x0 v1)).getD dflt) true (Under (eqI (nthI x0 v1) x1) false (Under (ltI v1 (lenL x0)) true ((gS x1).isSome = true)))) <|
  some (v1, (pickB (ltI v1 (lenL x0)) (pickB (eqI (nthI x0 v1) x1) true (pickB ((gS (nthI x0 v1)).getD dflt) ((gS x1).getD dflt) false)) false))
 )
end Go.Proofs
end
section
namespace Go.Ab

theorem keep_below {g : G} {w' : World} (h : RowKit.Below g.w.heap.size g.w w') : Keep g { g with w := w' } where
  len := Nat.le_refl _
  ptr _ _ := rfl
  rooms _ _ e h := ⟨e, h, Nat.le_refl _, fun _ => rfl⟩
  size := h.size
  cells a x hx _ := by rw [← hx]; simp only [World.cell?]; rw [h.block _ (cell_lt hx)]
  regs _ _ h := h
  blocks b hb _ := h.block b hb
  io := ⟨h.os, h.output⟩
  xs _ h := h
  xcell a ha _ := by simp only [World.cell?, World.frozen?]; rw [h.block _ ha]; exact ⟨rfl, rfl⟩
  xblk b hb _ := h.block b hb

theorem sim_below {g : G} {w' : World} (h : RowKit.Below g.w.heap.size g.w w') (s : Sim g) : Sim { g with w := w' } where
  fct := s.fct.keep (keep_below h)
  blk i cells hi := by
    obtain ⟨xs, T, h1, h2, h3, h4⟩ := s.blk i cells hi
    exact ⟨xs, T, (h.block _ (blk_lt s hi)).trans h1, h2, fun j hj => (h3 j hj).keep (keep_below h), h4⟩
  iter i t pos hi := (h.block _ (iter_lt s hi)).trans (s.iter i t pos hi)
  room t e ht k hk := by
    obtain ⟨x, h1, h2⟩ := s.room t e ht k hk
    have hb := cell_lt h1
    refine ⟨x, ?_, ?_⟩
    · simp only [World.cell?] at h1 ⊢; rw [h.block _ hb]; exact h1
    · simp only [World.frozen?] at h2 ⊢; rw [h.block _ hb]; exact h2
  disj := s.disj
  inb a ha := Nat.lt_of_lt_of_le (s.inb a ha) h.size
  xdis := s.xdis
  mapo i es hi := by
    obtain ⟨o', h1, h2⟩ := s.mapo i es hi
    exact ⟨o', (h.block _ (mapo_lt s hi)).trans h1, h2.keep (keep_below h)⟩
  opq i φ hi := by
    have e1 := h.block _ (Lt s hi (.inl rfl))
    have e2 := h.block _ (Lt s hi (.inr rfl))
    show φ _ _ (w'.heap[g.β i]?) (w'.heap[(g.ρ i).b]?)
    rw [e1, e2]; exact s.opq i φ hi
  own i P cur hi := s.ownKeep (keep_below h).toKeep0 (fun a ha => Nat.lt_of_lt_of_le (s.inb a ha) h.size) hi hi rfl rfl fun b hb => h.block _ (Lt s hi hb)
  arr i z els hi := (s.arr i z els hi).keep0 (keep_below h).toKeep0 fun hne => h.block _ (Lt s hi ⟨hne, rfl⟩)
  mapr i es vis cur t hi := by
    obtain ⟨t1, t2, o', oi, h1, h2, h3⟩ := s.mapr i es vis cur t hi
    exact ⟨t1, t2, o', oi, (h.block _ (Lt s hi (.inl rfl))).trans h1, (h.block _ (Lt s hi (.inr rfl))).trans h2, h3.keep (keep_below h)⟩

end Go.Ab
end
section
namespace Go.Proofs
open Go.Ab
noncomputable def gaA (x0 : Int) (x1 : Int) : Option (Option Tp × Int) :=
 bif (pickB (pickB (pickB (ltI x0 1) true (ltI 1024 x0)) true (ltI x1 1)) true (ltI 16777216 x1)) then (
  some (none, 5)
 ) else (
  some ((some (Tp.mk x0 x1 [] 0 true)), 0)
 )

noncomputable def gab (x0 : Tp) : Option Int :=
 some (lenL x0.fL)

noncomputable def gao (x0 : Tp) : Option Int :=
 some x0.fm

noncomputable def gY (x0 : Tp) : Option Bool :=
 some x0.fv

noncomputable def gF (x0 : Tp) : Option (Ta × Bool) :=
 bif (eqI (lenL x0.fL) 0) then (
  some ((Ta.mk 0 0 0 false), false)
 ) else (
  need (InB 0 (lenL x0.fL)) <|
  some ((nthI x0.fL 0), true)
 )

noncomputable def gM (x0 : Tp) : Option (Ta × Tp) :=
 need (InB 0 (lenL x0.fL)) <|
 need (CutB 1 (lenL x0.fL) (lenL x0.fL)) <|
 some ((nthI x0.fL 0), (Tp.mk x0.fh x0.fb (cutL x0.fL 1 (lenL x0.fL)) (subI .i64 x0.fm ((nthI x0.fL 0).fm)) x0.fv))

noncomputable def gap (x0 : Tp) : Option (Ta × Bool × Tp) :=
 bif (eqI (lenL x0.fL) 0) then (
  some ((Ta.mk 0 0 0 false), false, x0)
 ) else (
  ((gM x0)).bind fun r1 =>
  some (r1.1, true, r1.2)
 )

noncomputable def gn.loop1  (s1 : List Ta × Tp) : Option (Fl (List Ta × Tp) (Fl (List Ta × Tp) (List Ta × Tp))) :=
 need (Under (ltI 0 (lenL s1.2.fL)) true (InB 0 (lenL s1.2.fL))) <|
 bif (pickB (ltI 0 (lenL s1.2.fL)) (notB ((nthI s1.2.fL 0).fz)) false) then (
  ((gM s1.2)).bind fun r2 =>
  need (AppB (lenL s1.1) 1 32) <|
  some (.go ((appL s1.1 [r2.1]), r2.2))
 ) else (
  some (.out (.go (s1.1, s1.2)))
 )

noncomputable def gn (x0 : Tp) : Option (List Ta × Tp) :=
 ((gM x0)).bind fun r1 =>
 ((loopF gn.loop1 ([r1.1], r1.2)).bind fun f => flC f fun (v1 : List Ta × Tp) =>
  some (v1.1, (Tp.mk v1.2.fh v1.2.fb v1.2.fL v1.2.fm (pickB v1.2.fv true (eqI (lenL v1.2.fL) 0))))
 )

noncomputable def gv.loop1 (x1 : Ta) (s1 : List Ta × Tp) : Option (Fl (List Ta × Tp) (Fl (List Ta × Tp) (List Ta × Bool × Tp))) :=
 bif (pickB (leqI s1.2.fh (lenL s1.2.fL)) true (ltI s1.2.fb (addI .i64 s1.2.fm x1.fm))) then (
  ((gn s1.2)).bind fun r1 =>
  need (AppB (lenL s1.1) (lenL r1.1) 32) <|
  some (.go ((appL s1.1 r1.1), r1.2))
 ) else (
  some (.out (.go (s1.1, s1.2)))
 )

noncomputable def gv (x0 : Tp) (x1 : Ta) : Option (List Ta × Bool × Tp) :=
 bif (pickB (pickB (ltI x1.fm 0) true (ltI x0.fb x1.fm)) true (pickB x0.fv (notB x1.fz) false)) then (
  some ([], false, (Tp.mk x0.fh x0.fb x0.fL x0.fm true))
 ) else (
  ((loopF (gv.loop1 x1) ([], x0)).bind fun f => flC f fun (v1 : List Ta × Tp) =>
   bif (pickB v1.2.fv (notB x1.fz) false) then (
    some (v1.1, false, v1.2)
   ) else (
    need (CutB 0 (lenL v1.2.fL) (lenL v1.2.fL)) <|
    need (AppB (lenL (cutL v1.2.fL 0 (lenL v1.2.fL))) 1 32) <|
    some (v1.1, true, (Tp.mk v1.2.fh v1.2.fb (appL (cutL v1.2.fL 0 (lenL v1.2.fL)) [x1]) (addI .i64 v1.2.fm x1.fm) false))
   )
  )
 )

noncomputable def gk.loop1 (x1 : Int) (x2 : Int) (s1 : List Ta × Tp) : Option (Fl (List Ta × Tp) (Fl (List Ta × Tp) (List Ta × Tp))) :=
 need (Under (ltI 0 (lenL s1.2.fL)) true (InB 0 (lenL s1.2.fL))) <|
 bif (pickB (ltI 0 (lenL s1.2.fL)) (leqI x2 (subI .i64 x1 ((nthI s1.2.fL 0).fy))) false) then (
  ((gn s1.2)).bind fun r1 =>
  need (AppB (lenL s1.1) (lenL r1.1) 32) <|
  some (.go ((appL s1.1 r1.1), r1.2))
 ) else (
  some (.out (.go (s1.1, s1.2)))
 )

noncomputable def gk (x0 : Tp) (x1 : Int) (x2 : Int) : Option (List Ta × Tp) :=
 ((loopF (gk.loop1 x1 x2) ([], x0)).bind fun f => flC f fun (v1 : List Ta × Tp) =>
  some (v1.1, v1.2)
 )

noncomputable def gZ (x0 : Tp) : Option (List Ta × Tp) :=
 some (x0.fL, (Tp.mk x0.fh x0.fb [] 0 true))
end Go.Proofs
end
section
namespace Go.Proofs
open Go.Ab
noncomputable def gJ.loop1 (x0 : List Ta) (s1 : Int × Int) : Option (Fl (Int × Int) (Fl Int Int)) :=
 bif (ltI s1.1 (lenL x0)) then (
  need (InB s1.1 (lenL x0)) <|
  some (.go ((addI .i64 s1.1 1), (addI .i64 s1.2 ((nthI x0 s1.1).fm))))
 ) else (
  some (.out (.go s1.2))
 )

noncomputable def gJ (x0 : List Ta) : Option Int :=
 ((loopF (gJ.loop1 x0) (0, 0)).bind fun f => flC f fun (v1 : Int) =>
  some v1
 )

noncomputable def gW.loop1 (x0 : Tn) (s1 : Int) : Option (Fl Int (Fl Int (Tn × List Ta))) :=
 need (Under (ltI s1 (lenL x0.fL)) true (InB s1 (lenL x0.fL))) <|
 bif (pickB (ltI s1 (lenL x0.fL)) (notB ((nthI x0.fL s1).fz)) false) then (
  some (.go (addI .i64 s1 1))
 ) else (
  some (.out (.go s1))
 )

noncomputable def gW (x0 : Tn) : Option (Tn × List Ta) :=
 ((loopF (gW.loop1 x0) 1).bind fun f => flC f fun (v1 : Int) =>
  need (CutB 0 v1 (lenL x0.fL)) <|
  need (CutB v1 (lenL x0.fL) (lenL x0.fL)) <|
  some ((Tn.mk x0.fh x0.fb (cutL x0.fL v1 (lenL x0.fL)) (pickB x0.fv true (eqI (lenL (cutL x0.fL v1 (lenL x0.fL))) 0))), (cutL x0.fL 0 v1))
 )

noncomputable def gX.loop1 (x1 : Ta) (s1 : List Ta × Tn) : Option (Fl (List Ta × Tn) (Fl (List Ta × Tn) (Tn × List Ta × Bool))) :=
 need (Under (leqI s1.2.fh (lenL s1.2.fL)) false ((gJ s1.2.fL).isSome = true)) <|
 bif (pickB (leqI s1.2.fh (lenL s1.2.fL)) true (ltI (subI .i64 s1.2.fb x1.fm) ((gJ s1.2.fL).getD dflt))) then (
  ((gW s1.2)).bind fun r1 =>
  need (AppB (lenL s1.1) (lenL r1.2) 32) <|
  some (.go ((appL s1.1 r1.2), r1.1))
 ) else (
  some (.out (.go (s1.1, s1.2)))
 )

noncomputable def gX (x0 : Tn) (x1 : Ta) : Option (Tn × List Ta × Bool) :=
 bif (pickB (pickB (ltI x1.fm 0) true (ltI x0.fb x1.fm)) true (pickB x0.fv (notB x1.fz) false)) then (
  some ((Tn.mk x0.fh x0.fb x0.fL true), [], false)
 ) else (
  ((loopF (gX.loop1 x1) ([], x0)).bind fun f => flC f fun (v1 : List Ta × Tn) =>
   bif (pickB v1.2.fv (notB x1.fz) false) then (
    some (v1.2, v1.1, false)
   ) else (
    need (AppB 0 (lenL v1.2.fL) 32) <|
    need (AppB (lenL v1.2.fL) 1 32) <|
    some ((Tn.mk v1.2.fh v1.2.fb (appL (appL [] v1.2.fL) [x1]) false), v1.1, true)
   )
  )
 )

noncomputable def gR.loop1 (x1 : Int) (x2 : Int) (s1 : List Ta × Tn) : Option (Fl (List Ta × Tn) (Fl (List Ta × Tn) (Tn × List Ta))) :=
 need (Under (ltI 0 (lenL s1.2.fL)) true (InB 0 (lenL s1.2.fL))) <|
 bif (pickB (ltI 0 (lenL s1.2.fL)) (leqI x2 (subI .i64 x1 ((nthI s1.2.fL 0).fy))) false) then (
  ((gW s1.2)).bind fun r1 =>
  need (AppB (lenL s1.1) (lenL r1.2) 32) <|
  some (.go ((appL s1.1 r1.2), r1.1))
 ) else (
  some (.out (.go (s1.1, s1.2)))
 )

noncomputable def gR (x0 : Tn) (x1 : Int) (x2 : Int) : Option (Tn × List Ta) :=
 ((loopF (gR.loop1 x1 x2) ([], x0)).bind fun f => flC f fun (v1 : List Ta × Tn) =>
  some (v1.2, v1.1)
 )
end Go.Proofs
end
section
namespace Go.Ab
/-! ### Numbers -/
theorem wrap64_of {n : Int} (h0 : -9223372036854775808 ≤ n) (h1 : n < 9223372036854775808) : IntKind.i64.wrap n = n := by
  rw [IntKind.wrap_i64]; omega

theorem and_mask {j : Nat} (hj : j ≤ 62) (a m : Int) (hm : m = 2 ^ j - 1) : IntKind.i64.wrap ((BitVec.ofInt IntKind.i64.bits a &&& BitVec.ofInt IntKind.i64.bits m).toNat : Nat) = a % 2 ^ j := by
  have hb : IntKind.i64.bits = 64 := rfl
  have hp : (2 : Int) ^ j ≤ 2 ^ 62 := by
    have : (2 : Nat) ^ j ≤ 2 ^ 62 := Nat.pow_le_pow_right (by omega) hj
    exact_mod_cast this
  have h0 : (0 : Int) < 2 ^ j := Int.pow_pos (by omega)
  have hm' : (BitVec.ofInt 64 m).toNat = 2 ^ j - 1 := by
    rw [BitVec.toNat_ofInt]
    have e : m % ((2 ^ 64 : Nat) : Int) = m := Int.emod_eq_of_lt (by omega) (by
      rw [hm]
      have : (2 : Int) ^ 62 < ((2 ^ 64 : Nat) : Int) := by decide
      omega)
    rw [e, hm]
    have : ((2 ^ j : Nat) : Int) = (2 : Int) ^ j := by push_cast; rfl
    rw [← this]; omega
  rw [hb, BitVec.toNat_and, hm', Nat.and_two_pow_sub_one_eq_mod, BitVec.toNat_ofInt]
  have e1 : (((a % ((2 ^ 64 : Nat) : Int)).toNat % 2 ^ j : Nat) : Int) = a % 2 ^ j := by
    rw [Int.natCast_emod, Int.toNat_of_nonneg (Int.emod_nonneg _ (by decide)), Int.natCast_pow]
    refine Int.emod_emod_of_dvd _ ?_
    have : ((2 ^ j : Nat) : Int) ∣ ((2 ^ 64 : Nat) : Int) := Int.natCast_dvd_natCast.2 (Nat.pow_dvd_pow 2 (by omega))
    simpa only [Int.natCast_pow] using this
  rw [e1]
  have h2 := Int.emod_nonneg a (b := (2 : Int) ^ j) (by omega)
  have h3 := Int.emod_lt_of_pos a h0
  exact wrap64_of (by omega) (by omega)
theorem and_mask' {j : Nat} (hj : j ≤ 62) (a m : Int) (hm : m = 2 ^ j - 1) : bitsOp .and .i64 a m = a % 2 ^ j := and_mask hj a m hm
end Go.Ab
end
