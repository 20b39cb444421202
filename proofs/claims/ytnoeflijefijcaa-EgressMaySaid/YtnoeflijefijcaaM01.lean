/- Worlds that only have more blocks behind. No condition. -/
import Derived.Test.YtnoeflijefijcaaAb9
import Derived.Maps.OwnSet
import Derived.Test.YtnoeflijefijcaaTs
section
namespace Go.Ab

theorem keep_below {g : G} {w' : World} (h : RowKit.Below g.w.heap.size g.w w') : Keep g { g with w := w' } where
  len := Nat.le_refl _
  ptr _ _ := rfl
  rooms _ _ e h := ⟨e, h, Nat.le_refl _, fun _ => rfl⟩
  size := h.size
  cells a x hx _ := by rw [← hx]; simp only [World.cell?]; rw [h.block _ (cell_lt hx)]
  regs _ _ h := h
  blocks b hb _ := h.block b hb
  io := ⟨h.os, h.output⟩
  xs _ h := h
  xcell a ha _ := by simp only [World.cell?, World.frozen?]; rw [h.block _ ha]; exact ⟨rfl, rfl⟩
  xblk b hb _ := h.block b hb

theorem sim_below {g : G} {w' : World} (h : RowKit.Below g.w.heap.size g.w w') (s : Sim g) : Sim { g with w := w' } where
  fct := s.fct.keep (keep_below h)
  blk i cells hi := by
    obtain ⟨xs, T, h1, h2, h3, h4⟩ := s.blk i cells hi
    exact ⟨xs, T, (h.block _ (blk_lt s hi)).trans h1, h2, fun j hj => (h3 j hj).keep (keep_below h), h4⟩
  iter i t pos hi := (h.block _ (iter_lt s hi)).trans (s.iter i t pos hi)
  room t e ht k hk := by
    obtain ⟨x, h1, h2⟩ := s.room t e ht k hk
    have hb := cell_lt h1
    refine ⟨x, ?_, ?_⟩
    · simp only [World.cell?] at h1 ⊢; rw [h.block _ hb]; exact h1
    · simp only [World.frozen?] at h2 ⊢; rw [h.block _ hb]; exact h2
  disj := s.disj
  inb a ha := Nat.lt_of_lt_of_le (s.inb a ha) h.size
  xdis := s.xdis
  mapo i es hi := by
    obtain ⟨o', h1, h2⟩ := s.mapo i es hi
    exact ⟨o', (h.block _ (mapo_lt s hi)).trans h1, h2.keep (keep_below h)⟩
  opq i φ hi := by
    have e1 := h.block _ (whole_lt s hi (.inl rfl))
    have e2 := h.block _ (whole_lt s hi (.inr rfl))
    show φ _ _ (w'.heap[g.β i]?) (w'.heap[(g.ρ i).b]?)
    rw [e1, e2]; exact s.opq i φ hi
  own i P cur hi := s.ownKeep (keep_below h).toKeep0 (fun a ha => Nat.lt_of_lt_of_le (s.inb a ha) h.size) hi hi rfl rfl fun b hb => h.block _ (whole_lt s hi hb)
  arr i z els hi := (s.arr i z els hi).keep0 (keep_below h).toKeep0 fun hne => h.block _ (whole_lt s hi ⟨hne, rfl⟩)
  mapr i es vis cur t hi := by
    obtain ⟨t1, t2, o', oi, h1, h2, h3⟩ := s.mapr i es vis cur t hi
    exact ⟨t1, t2, o', oi, (h.block _ (whole_lt s hi (.inl rfl))).trans h1, (h.block _ (whole_lt s hi (.inr rfl))).trans h2, h3.keep (keep_below h)⟩

end Go.Ab
end
section
namespace Go.Proofs
open Go.Ab
noncomputable def gRef18Size.loop1 (x0 : List Antiphonref18Item) (s1 : Int × Int) : Option (Fl (Int × Int) (Fl Int Int)) :=
  bif (ltI s1.1 (lenL x0)) then (
    need (InB s1.1 (lenL x0)) <|
    some (.go ((addI .i64 s1.1 1), (addI .i64 s1.2 ((nthI x0 s1.1).fSize))))
  ) else (
    some (.out (.go s1.2))
  )

noncomputable def gRef18Size (x0 : List Antiphonref18Item) : Option Int :=
  ((loopF (gRef18Size.loop1 x0) (0, 0)).bind fun f => flC f fun (v1 : Int) =>
    some v1
  )

noncomputable def gRef18Drop.loop1 (x0 : Antiphonref18Queue) (s1 : Int) : Option (Fl Int (Fl Int (Antiphonref18Queue × List Antiphonref18Item))) :=
  need (Under (ltI s1 (lenL x0.fL)) true (InB s1 (lenL x0.fL))) <|
  bif (pickB (ltI s1 (lenL x0.fL)) (notB ((nthI x0.fL s1).fKey)) false) then (
    some (.go (addI .i64 s1 1))
  ) else (
    some (.out (.go s1))
  )

noncomputable def gRef18Drop (x0 : Antiphonref18Queue) : Option (Antiphonref18Queue × List Antiphonref18Item) :=
  ((loopF (gRef18Drop.loop1 x0) 1).bind fun f => flC f fun (v1 : Int) =>
    need (CutB 0 v1 (lenL x0.fL)) <|
    need (CutB v1 (lenL x0.fL) (lenL x0.fL)) <|
    some ((Antiphonref18Queue.mk x0.fFrames x0.fMost (cutL x0.fL v1 (lenL x0.fL)) (pickB x0.fBroken true (eqI (lenL (cutL x0.fL v1 (lenL x0.fL))) 0))), (cutL x0.fL 0 v1))
  )

noncomputable def gRef18Put.loop1 (x1 : Antiphonref18Item) (s1 : List Antiphonref18Item × Antiphonref18Queue) : Option (Fl (List Antiphonref18Item × Antiphonref18Queue) (Fl (List Antiphonref18Item × Antiphonref18Queue) (Antiphonref18Queue × List Antiphonref18Item × Bool))) :=
  need (Under (leqI s1.2.fFrames (lenL s1.2.fL)) false ((gRef18Size s1.2.fL).isSome = true)) <|
  bif (pickB (leqI s1.2.fFrames (lenL s1.2.fL)) true (ltI (subI .i64 s1.2.fMost x1.fSize) ((gRef18Size s1.2.fL).getD dflt))) then (
    ((gRef18Drop s1.2)).bind fun r1 =>
    need (AppB (lenL s1.1) (lenL r1.2) 32) <|
    some (.go ((appL s1.1 r1.2), r1.1))
  ) else (
    some (.out (.go (s1.1, s1.2)))
  )

noncomputable def gRef18Put (x0 : Antiphonref18Queue) (x1 : Antiphonref18Item) : Option (Antiphonref18Queue × List Antiphonref18Item × Bool) :=
  bif (pickB (pickB (ltI x1.fSize 0) true (ltI x0.fMost x1.fSize)) true (pickB x0.fBroken (notB x1.fKey) false)) then (
    some ((Antiphonref18Queue.mk x0.fFrames x0.fMost x0.fL true), [], false)
  ) else (
    ((loopF (gRef18Put.loop1 x1) ([], x0)).bind fun f => flC f fun (v1 : List Antiphonref18Item × Antiphonref18Queue) =>
      bif (pickB v1.2.fBroken (notB x1.fKey) false) then (
        some (v1.2, v1.1, false)
      ) else (
        need (AppB 0 (lenL v1.2.fL) 32) <|
        need (AppB (lenL v1.2.fL) 1 32) <|
        some ((Antiphonref18Queue.mk v1.2.fFrames v1.2.fMost (appL (appL [] v1.2.fL) [x1]) false), v1.1, true)
      )
    )
  )

noncomputable def gRef18Expire.loop1 (x1 : Int) (x2 : Int) (s1 : List Antiphonref18Item × Antiphonref18Queue) : Option (Fl (List Antiphonref18Item × Antiphonref18Queue) (Fl (List Antiphonref18Item × Antiphonref18Queue) (Antiphonref18Queue × List Antiphonref18Item))) :=
  need (Under (ltI 0 (lenL s1.2.fL)) true (InB 0 (lenL s1.2.fL))) <|
  bif (pickB (ltI 0 (lenL s1.2.fL)) (leqI x2 (subI .i64 x1 ((nthI s1.2.fL 0).fTick))) false) then (
    ((gRef18Drop s1.2)).bind fun r1 =>
    need (AppB (lenL s1.1) (lenL r1.2) 32) <|
    some (.go ((appL s1.1 r1.2), r1.1))
  ) else (
    some (.out (.go (s1.1, s1.2)))
  )

noncomputable def gRef18Expire (x0 : Antiphonref18Queue) (x1 : Int) (x2 : Int) : Option (Antiphonref18Queue × List Antiphonref18Item) :=
  ((loopF (gRef18Expire.loop1 x1 x2) ([], x0)).bind fun f => flC f fun (v1 : List Antiphonref18Item × Antiphonref18Queue) =>
    some (v1.2, v1.1)
  )
end Go.Proofs
end
