/- Worlds that only have more blocks behind. No condition. -/
import Derived.Test.YtnbfecfhejopgaaAb9
import Derived.Maps.OwnSet
namespace Go.Ab

theorem keep_below {g : G} {w' : World} (h : RowKit.Below g.w.heap.size g.w w') : Keep g { g with w := w' } where
  len := Nat.le_refl _
  ptr _ _ := rfl
  rooms _ _ e h := ⟨e, h, Nat.le_refl _, fun _ => rfl⟩
  size := h.size
  cells a x hx _ := by rw [← hx]; simp only [World.cell?]; rw [h.block _ (cell_lt hx)]
  regs _ _ h := h
  blocks b hb _ := h.block b hb
  io := ⟨h.os, h.output⟩
  xs _ h := h
  xcell a ha _ := by simp only [World.cell?, World.frozen?]; rw [h.block _ ha]; exact ⟨rfl, rfl⟩
  xblk b hb _ := h.block b hb

theorem sim_below {g : G} {w' : World} (h : RowKit.Below g.w.heap.size g.w w') (s : Sim g) : Sim { g with w := w' } where
  fct := s.fct.keep (keep_below h)
  blk i cells hi := by
    obtain ⟨xs, T, h1, h2, h3, h4⟩ := s.blk i cells hi
    exact ⟨xs, T, (h.block _ (blk_lt s hi)).trans h1, h2, fun j hj => (h3 j hj).keep (keep_below h), h4⟩
  iter i t pos hi := (h.block _ (iter_lt s hi)).trans (s.iter i t pos hi)
  room t e ht k hk := by
    obtain ⟨x, h1, h2⟩ := s.room t e ht k hk
    have hb := cell_lt h1
    refine ⟨x, ?_, ?_⟩
    · simp only [World.cell?] at h1 ⊢; rw [h.block _ hb]; exact h1
    · simp only [World.frozen?] at h2 ⊢; rw [h.block _ hb]; exact h2
  disj := s.disj
  inb a ha := Nat.lt_of_lt_of_le (s.inb a ha) h.size
  xdis := s.xdis
  mapo i es hi := by
    obtain ⟨o', h1, h2⟩ := s.mapo i es hi
    exact ⟨o', (h.block _ (mapo_lt s hi)).trans h1, h2.keep (keep_below h)⟩
  opq i φ hi := by
    have e1 := h.block _ (whole_lt s hi (.inl rfl))
    have e2 := h.block _ (whole_lt s hi (.inr rfl))
    show φ _ _ (w'.heap[g.β i]?) (w'.heap[(g.ρ i).b]?)
    rw [e1, e2]; exact s.opq i φ hi
  mapr i es vis cur t hi := by
    obtain ⟨t1, t2, o', oi, h1, h2, h3⟩ := s.mapr i es vis cur t hi
    exact ⟨t1, t2, o', oi, (h.block _ (whole_lt s hi (.inl rfl))).trans h1, (h.block _ (whole_lt s hi (.inr rfl))).trans h2, h3.keep (keep_below h)⟩

end Go.Ab
