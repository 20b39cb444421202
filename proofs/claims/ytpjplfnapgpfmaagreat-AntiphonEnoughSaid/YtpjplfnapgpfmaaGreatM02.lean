/- Worlds that only have more blocks behind. No condition. -/
import Derived.Test.YtpjplfnapgpfmaaGreatAb9
import Derived.Maps.OwnSet
import Derived.Test.YtpjplfnapgpfmaaGreatTs
import Derived.Test.YtpjplfnapgpfmaaGreatM11
import Derived.Test.YtpjplfnapgpfmaaGreatTy
import Derived.Laws.Externs
section
namespace Go.Ab

theorem keep_below {g : G} {w' : World} (h : RowKit.Below g.w.heap.size g.w w') : Keep g { g with w := w' } where
 len := Nat.le_refl _
 ptr _ _ := rfl
 rooms _ _ e h := ⟨e, h, Nat.le_refl _, fun _ => rfl⟩
 size := h.size
 cells a x hx _ := by rw [← hx]; simp only [World.cell?]; rw [h.block _ (cell_lt hx)]
 regs _ _ h := h
 blocks b hb _ := h.block b hb
 io := ⟨h.os, h.output⟩
 xs _ h := h
 xcell a ha _ := by simp only [World.cell?, World.frozen?]; rw [h.block _ ha]; exact ⟨rfl, rfl⟩
 xblk b hb _ := h.block b hb

theorem sim_below {g : G} {w' : World} (h : RowKit.Below g.w.heap.size g.w w') (s : Sim g) : Sim { g with w := w' } where
 fct := s.fct.keep (keep_below h)
 blk i cells hi := by
  obtain ⟨xs, T, h1, h2, h3, h4⟩ := s.blk i cells hi
  exact ⟨xs, T, (h.block _ (blk_lt s hi)).trans h1, h2, fun j hj => (h3 j hj).keep (keep_below h), h4⟩
 iter i t pos hi := (h.block _ (iter_lt s hi)).trans (s.iter i t pos hi)
 room t e ht k hk := by
  obtain ⟨x, h1, h2⟩ := s.room t e ht k hk
  have hb := cell_lt h1
  refine ⟨x, ?_, ?_⟩
  ·simp only [World.cell?] at h1 ⊢; rw [h.block _ hb]; exact h1
  ·simp only [World.frozen?] at h2 ⊢; rw [h.block _ hb]; exact h2
 disj := s.disj
 inb a ha := Nat.lt_of_lt_of_le (s.inb a ha) h.size
 xdis := s.xdis
 mapo i es hi := by
  obtain ⟨o', h1, h2⟩ := s.mapo i es hi
  exact ⟨o', (h.block _ (mapo_lt s hi)).trans h1, h2.keep (keep_below h)⟩
 opq i φ hi := by
  have e1 := h.block _ (Lp s hi (.inl rfl))
  have e2 := h.block _ (Lp s hi (.inr rfl))
  show φ _ _ (w'.heap[g.β i]?) (w'.heap[(g.ρ i).b]?)
  rw [e1, e2]; exact s.opq i φ hi
 own i P cur hi := s.ownKeep (keep_below h).toKeep0 (fun a ha => Nat.lt_of_lt_of_le (s.inb a ha) h.size) hi hi rfl rfl fun b hb => h.block _ (Lp s hi hb)
 arr i z els hi := (s.arr i z els hi).keep0 (keep_below h).toKeep0 fun hne => h.block _ (Lp s hi ⟨hne, rfl⟩)
 mapr i es vis cur t hi := by
  obtain ⟨t1, t2, o', oi, h1, h2, h3⟩ := s.mapr i es vis cur t hi
  exact ⟨t1, t2, o', oi, (h.block _ (Lp s hi (.inl rfl))).trans h1, (h.block _ (Lp s hi (.inr rfl))).trans h2, h3.keep (keep_below h)⟩

end Go.Ab
end
section
namespace Go.Proofs
open Go.Ab
noncomputable def gaQ (x0 : Int) (x1 : Int) : Option (Option Tn × Int) :=
 bif (pickB (pickB (pickB (ltI x0 1) true (ltI 1024 x0)) true (ltI x1 1)) true (ltI 16777216 x1)) then (
  some (none, 5)
 ) else (
   some ((some (Tn.mk x0 x1 [] 0 true)), 0)
 )

noncomputable def gae (x0 : Tn) : Option Int :=
 some (lenL x0.fL)

noncomputable def gan (x0 : Tn) : Option Int :=
 some x0.fj

noncomputable def gD (x0 : Tn) : Option (Ta × Bool) :=
 bif (eqI (lenL x0.fL) 0) then (
  some ((Ta.mk 0 0 0 false), false)
 ) else (
   need (InB 0 (lenL x0.fL)) <|
   some ((nthI x0.fL 0), true)
 )

noncomputable def gL (x0 : Tn) : Option (Ta × Tn) :=
 need (InB 0 (lenL x0.fL)) <|
 need (CutB 1 (lenL x0.fL) (lenL x0.fL)) <|
 some ((nthI x0.fL 0), (Tn.mk x0.fe x0.fb (cutL x0.fL 1 (lenL x0.fL)) (subI .i64 x0.fj ((nthI x0.fL 0).fj)) x0.fv))

noncomputable def gaw (x0 : Tn) : Option (Ta × Bool × Tn) :=
 bif (eqI (lenL x0.fL) 0) then (
  some ((Ta.mk 0 0 0 false), false, x0)
 ) else (
   ((gL x0)).bind fun r1 =>
   some (r1.1, true, r1.2)
 )

noncomputable def gq.loop1  (s1 : List Ta × Tn) : Option (Fl (List Ta × Tn) (Fl (List Ta × Tn) (List Ta × Tn))) :=
 need (Under (ltI 0 (lenL s1.2.fL)) true (InB 0 (lenL s1.2.fL))) <|
 bif (pickB (ltI 0 (lenL s1.2.fL)) (notB ((nthI s1.2.fL 0).fy)) false) then (
  ((gL s1.2)).bind fun r2 =>
  need (AppB (lenL s1.1) 1 32) <|
  some (.go ((appL s1.1 [r2.1]), r2.2))
 ) else (
   some (.out (.go (s1.1, s1.2)))
 )

noncomputable def gq (x0 : Tn) : Option (List Ta × Tn) :=
 ((gL x0)).bind fun r1 =>
 ((loopF gq.loop1 ([r1.1], r1.2)).bind fun f => flC f fun (v1 : List Ta × Tn) =>
   some (v1.1, (Tn.mk v1.2.fe v1.2.fb v1.2.fL v1.2.fj (pickB v1.2.fv true (eqI (lenL v1.2.fL) 0))))
 )

noncomputable def gv.loop1 (x1 : Ta) (s1 : List Ta × Tn) : Option (Fl (List Ta × Tn) (Fl (List Ta × Tn) (List Ta × Bool × Tn))) :=
 bif (pickB (leqI s1.2.fe (lenL s1.2.fL)) true (ltI s1.2.fb (addI .i64 s1.2.fj x1.fj))) then (
  ((gq s1.2)).bind fun r1 =>
  need (AppB (lenL s1.1) (lenL r1.1) 32) <|
  some (.go ((appL s1.1 r1.1), r1.2))
 ) else (
   some (.out (.go (s1.1, s1.2)))
 )

noncomputable def gv (x0 : Tn) (x1 : Ta) : Option (List Ta × Bool × Tn) :=
 bif (pickB (pickB (ltI x1.fj 0) true (ltI x0.fb x1.fj)) true (pickB x0.fv (notB x1.fy) false)) then (
  some ([], false, (Tn.mk x0.fe x0.fb x0.fL x0.fj true))
 ) else (
   ((loopF (gv.loop1 x1) ([], x0)).bind fun f => flC f fun (v1 : List Ta × Tn) =>
     bif (pickB v1.2.fv (notB x1.fy) false) then (
      some (v1.1, false, v1.2)
     ) else (
       need (CutB 0 (lenL v1.2.fL) (lenL v1.2.fL)) <|
       need (AppB (lenL (cutL v1.2.fL 0 (lenL v1.2.fL))) 1 32) <|
       some (v1.1, true, (Tn.mk v1.2.fe v1.2.fb (appL (cutL v1.2.fL 0 (lenL v1.2.fL)) [x1]) (addI .i64 v1.2.fj x1.fj) false))
     )
   )
 )

noncomputable def gn.loop1 (x1 : Int) (x2 : Int) (s1 : List Ta × Tn) : Option (Fl (List Ta × Tn) (Fl (List Ta × Tn) (List Ta × Tn))) :=
 need (Under (ltI 0 (lenL s1.2.fL)) true (InB 0 (lenL s1.2.fL))) <|
 bif (pickB (ltI 0 (lenL s1.2.fL)) (leqI x2 (subI .i64 x1 ((nthI s1.2.fL 0).fw))) false) then (
  ((gq s1.2)).bind fun r1 =>
  need (AppB (lenL s1.1) (lenL r1.1) 32) <|
  some (.go ((appL s1.1 r1.1), r1.2))
 ) else (
   some (.out (.go (s1.1, s1.2)))
 )

noncomputable def gn (x0 : Tn) (x1 : Int) (x2 : Int) : Option (List Ta × Tn) :=
 ((loopF (gn.loop1 x1 x2) ([], x0)).bind fun f => flC f fun (v1 : List Ta × Tn) =>
   some (v1.1, v1.2)
 )

noncomputable def gX (x0 : Tn) : Option (List Ta × Tn) :=
 some (x0.fL, (Tn.mk x0.fe x0.fb [] 0 true))
end Go.Proofs
end
section
namespace Go.Proofs
open Go.Ab
noncomputable def gao.loop1 (x0 : List Ta) (s1 : Int × Int) : Option (Fl (Int × Int) (Fl Int Int)) :=
 bif (ltI s1.1 (lenL x0)) then (
  need (InB s1.1 (lenL x0)) <|
  some (.go ((addI .i64 s1.1 1), (addI .i64 s1.2 ((nthI x0 s1.1).fj))))
 ) else (
   some (.out (.go s1.2))
 )

noncomputable def gao (x0 : List Ta) : Option Int :=
 ((loopF (gao.loop1 x0) (0, 0)).bind fun f => flC f fun (v1 : Int) =>
   some v1
 )

noncomputable def gac.loop1 (x0 : Tl) (s1 : Int) : Option (Fl Int (Fl Int (Tl × List Ta))) :=
 need (Under (ltI s1 (lenL x0.fL)) true (InB s1 (lenL x0.fL))) <|
 bif (pickB (ltI s1 (lenL x0.fL)) (notB ((nthI x0.fL s1).fy)) false) then (
  some (.go (addI .i64 s1 1))
 ) else (
   some (.out (.go s1))
 )

noncomputable def gac (x0 : Tl) : Option (Tl × List Ta) :=
 ((loopF (gac.loop1 x0) 1).bind fun f => flC f fun (v1 : Int) =>
   need (CutB 0 v1 (lenL x0.fL)) <|
   need (CutB v1 (lenL x0.fL) (lenL x0.fL)) <|
   some ((Tl.mk x0.fe x0.fb (cutL x0.fL v1 (lenL x0.fL)) (pickB x0.fv true (eqI (lenL (cutL x0.fL v1 (lenL x0.fL))) 0))), (cutL x0.fL 0 v1))
 )

noncomputable def gat.loop1 (x1 : Ta) (s1 : List Ta × Tl) : Option (Fl (List Ta × Tl) (Fl (List Ta × Tl) (Tl × List Ta × Bool))) :=
 need (Under (leqI s1.2.fe (lenL s1.2.fL)) false ((gao s1.2.fL).isSome = true)) <|
 bif (pickB (leqI s1.2.fe (lenL s1.2.fL)) true (ltI (subI .i64 s1.2.fb x1.fj) ((gao s1.2.fL).getD dflt))) then (
  ((gac s1.2)).bind fun r1 =>
  need (AppB (lenL s1.1) (lenL r1.2) 32) <|
  some (.go ((appL s1.1 r1.2), r1.1))
 ) else (
   some (.out (.go (s1.1, s1.2)))
 )

noncomputable def gat (x0 : Tl) (x1 : Ta) : Option (Tl × List Ta × Bool) :=
 bif (pickB (pickB (ltI x1.fj 0) true (ltI x0.fb x1.fj)) true (pickB x0.fv (notB x1.fy) false)) then (
  some ((Tl.mk x0.fe x0.fb x0.fL true), [], false)
 ) else (
   ((loopF (gat.loop1 x1) ([], x0)).bind fun f => flC f fun (v1 : List Ta × Tl) =>
     bif (pickB v1.2.fv (notB x1.fy) false) then (
      some (v1.2, v1.1, false)
     ) else (
       need (AppB 0 (lenL v1.2.fL) 32) <|
       need (AppB (lenL v1.2.fL) 1 32) <|
       some ((Tl.mk v1.2.fe v1.2.fb (appL (appL [] v1.2.fL) [x1]) false), v1.1, true)
     )
   )
 )

noncomputable def gV.loop1 (x1 : Int) (x2 : Int) (s1 : List Ta × Tl) : Option (Fl (List Ta × Tl) (Fl (List Ta × Tl) (Tl × List Ta))) :=
 need (Under (ltI 0 (lenL s1.2.fL)) true (InB 0 (lenL s1.2.fL))) <|
 bif (pickB (ltI 0 (lenL s1.2.fL)) (leqI x2 (subI .i64 x1 ((nthI s1.2.fL 0).fw))) false) then (
  ((gac s1.2)).bind fun r1 =>
  need (AppB (lenL s1.1) (lenL r1.2) 32) <|
  some (.go ((appL s1.1 r1.2), r1.1))
 ) else (
   some (.out (.go (s1.1, s1.2)))
 )

noncomputable def gV (x0 : Tl) (x1 : Int) (x2 : Int) : Option (Tl × List Ta) :=
 ((loopF (gV.loop1 x1 x2) ([], x0)).bind fun f => flC f fun (v1 : List Ta × Tl) =>
   some (v1.2, v1.1)
 )
end Go.Proofs
end
section
namespace Go.Proofs
open Go.RowKit Go.Ab

theorem Tryz.ccSize : (Tryz.prog.info? 117).map (·.size) = some 2 := by kernel_rfl
theorem Tryz.ccLies : liesAt Tryz.prog Tryz.prog.depth 119 (2 / Tryz.prog.cellsOf 119) 0 117 1 = true := by kernel_rfl
theorem Tryz.byteI : (Tryz.prog.info? 5).map (fun i => (i.zero, i.size, i.bytes)) = some (some (.int .u8 0), 1, 1) := by kernel_rfl

set_option maxHeartbeats 1000000 in
set_option maxRecDepth 100000 in
theorem Tryz.ccFresh (b : Nat) (w : World) (v : Value) (hb : w.heap[b]? = some (.cells #[.pointer none, v] 119 (0, 0))) :
  Calls Tryz.prog 103 #[.pointer (some ⟨b, 0, none⟩)] w fun e w' => e = .returned (.tuple #[]) ∧ w' = w.setCell ⟨b, 0, none⟩ (.pointer (some ⟨b, 0, none⟩)) := by
 obtain ⟨j, hj, hjs⟩ := Option.map_eq_some_iff.1 Tryz.ccSize
 have h0 : w.cell? ⟨b, 0, none⟩ = some (.pointer none) := by rw [Lib.cell_of_heap hb]; rfl
 have hsh : w.shape? b = some (119, 2) := by simp [World.shape?, hb]
 have hfz : w.frozen? ⟨b, 0, none⟩ = false := Lib.frozen_of_heap hb 0
 go_enter Tryz.func103, Tryz.ntmps103
 go_wp2
 rw [Lib.run_to_unsafe w ⟨b, 0, none⟩ Tryz.underlying114 Tryz.underlying218 hj (by rw [hjs]; decide) hsh (Nat.zero_lt_succ 1)]
 simp only [Result.andThen]
 rw [Oper.upon_value]
 go_wp2
 rw [run_callFunc_extern Tryz.func111 (by kernel_rfl) (by kernel_rfl) (by kernel_rfl) (e := Extern.AbiNoEscape.same) (by kernel_rfl)]
 rw [Lib.run_noEscape]
 simp only [Result.andThen]
 rw [Oper.upon_value]
 go_wp2
 rw [Lib.run_from_unsafe w ⟨b, 0, none⟩ Tryz.underlying218 Tryz.underlying114 hj hsh Tryz.ccLies]
 simp only [Result.andThen]
 rw [Oper.upon_value]
 go_wp2
 go_end0
 exact ⟨rfl, rfl⟩

set_option maxHeartbeats 1000000 in
set_option maxRecDepth 100000 in
theorem Tryz.ccUsed (b : Nat) (w : World) (v : Value) (hb : w.heap[b]? = some (.cells #[.pointer (some ⟨b, 0, none⟩), v] 119 (0, 0))) :
  Calls Tryz.prog 103 #[.pointer (some ⟨b, 0, none⟩)] w fun e w' => e = .returned (.tuple #[]) ∧ w' = w := by
 obtain ⟨j, hj, hjs⟩ := Option.map_eq_some_iff.1 Tryz.ccSize
 have h0 : w.cell? ⟨b, 0, none⟩ = some (.pointer (some ⟨b, 0, none⟩)) := by rw [Lib.cell_of_heap hb]; rfl
 go_enter Tryz.func103, Tryz.ntmps103
 go_wp2
 rw [Lib.run_neq_ptr_same w _ Tryz.underlying114 hj]
 go_wp2
 go_end0
 exact ⟨rfl, rfl⟩

theorem Tryz.ccAny (b : Nat) (w : World) (p v : Value) (n : Nat) (xs : List Value) (hb : w.heap[b]? = some (.cells #[p, v] 119 (0, 0))) (hp : p = .pointer none ∨ p = .pointer (some ⟨b, 0, none⟩))
  (hown : w.ownsRow 0 5 1 v n xs) (hne : v.ownBlock ≠ some b) :
  Calls Tryz.prog 103 #[.pointer (some ⟨b, 0, none⟩)] w fun e w' => e = .returned (.tuple #[]) ∧ w'.heap[b]? = some (.cells #[.pointer (some ⟨b, 0, none⟩), v] 119 (0, 0)) ∧
   w'.ownsRow 0 5 1 v n xs ∧ w'.heap.size = w.heap.size ∧ WrKeep b v.ownBlock w w' ∧ ∀ k, k ≠ b → w'.heap[k]? = w.heap[k]? := by
 rcases hp with rfl | rfl
 ·refine (Tryz.ccFresh b w v hb).mono ?_
  rintro e w' ⟨rfl, rfl⟩
  refine ⟨rfl, by simp [World.setCell, Array.getElem?_modify, hb], ?_, by simp [World.setCell], WrKeep.setCell _ _ _ _ _, fun k hk => heap_setCell_ne hk⟩
  exact hown.kept (row := some b) ⟨rfl, rfl, rfl, by simp [World.setCell], fun k _ hk => heap_setCell_ne (fun e => hk (by simp [e]))⟩ (.inr hne)
 ·refine (Tryz.ccUsed b w v hb).mono ?_
  rintro e w' ⟨rfl, rfl⟩
  exact ⟨rfl, hb, hown, rfl, WrKeep.refl _ _ _, fun _ _ => rfl⟩

end Go.Proofs
end
