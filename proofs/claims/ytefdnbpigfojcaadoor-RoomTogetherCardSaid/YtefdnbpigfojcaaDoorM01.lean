/- Worlds that only have more blocks behind. No condition. -/
import Derived.Test.YtefdnbpigfojcaaDoorAb9
import Derived.Maps.OwnSet
import Derived.Test.YtefdnbpigfojcaaDoorGl
section
namespace Go.Ab

theorem keep_below {g : G} {w' : World} (h : RowKit.Below g.w.heap.size g.w w') : Keep g { g with w := w' } where
  len := Nat.le_refl _
  ptr _ _ := rfl
  rooms _ _ e h := ⟨e, h, Nat.le_refl _, fun _ => rfl⟩
  size := h.size
  cells a x hx _ := by rw [← hx]; simp only [World.cell?]; rw [h.block _ (cell_lt hx)]
  regs _ _ h := h
  blocks b hb _ := h.block b hb
  io := ⟨h.os, h.output⟩
  xs _ h := h
  xcell a ha _ := by simp only [World.cell?, World.frozen?]; rw [h.block _ ha]; exact ⟨rfl, rfl⟩
  xblk b hb _ := h.block b hb

theorem sim_below {g : G} {w' : World} (h : RowKit.Below g.w.heap.size g.w w') (s : Sim g) : Sim { g with w := w' } where
  fct := s.fct.keep (keep_below h)
  blk i cells hi := by
    obtain ⟨xs, T, h1, h2, h3, h4⟩ := s.blk i cells hi
    exact ⟨xs, T, (h.block _ (blk_lt s hi)).trans h1, h2, fun j hj => (h3 j hj).keep (keep_below h), h4⟩
  iter i t pos hi := (h.block _ (iter_lt s hi)).trans (s.iter i t pos hi)
  room t e ht k hk := by
    obtain ⟨x, h1, h2⟩ := s.room t e ht k hk
    have hb := cell_lt h1
    refine ⟨x, ?_, ?_⟩
    · simp only [World.cell?] at h1 ⊢; rw [h.block _ hb]; exact h1
    · simp only [World.frozen?] at h2 ⊢; rw [h.block _ hb]; exact h2
  disj := s.disj
  inb a ha := Nat.lt_of_lt_of_le (s.inb a ha) h.size
  xdis := s.xdis
  mapo i es hi := by
    obtain ⟨o', h1, h2⟩ := s.mapo i es hi
    exact ⟨o', (h.block _ (mapo_lt s hi)).trans h1, h2.keep (keep_below h)⟩
  opq i φ hi := by
    have e1 := h.block _ (whole_lt s hi (.inl rfl))
    have e2 := h.block _ (whole_lt s hi (.inr rfl))
    show φ _ _ (w'.heap[g.β i]?) (w'.heap[(g.ρ i).b]?)
    rw [e1, e2]; exact s.opq i φ hi
  mapr i es vis cur t hi := by
    obtain ⟨t1, t2, o', oi, h1, h2, h3⟩ := s.mapr i es vis cur t hi
    exact ⟨t1, t2, o', oi, (h.block _ (whole_lt s hi (.inl rfl))).trans h1, (h.block _ (whole_lt s hi (.inr rfl))).trans h2, h3.keep (keep_below h)⟩

end Go.Ab
end
section
namespace Go.Ab
def ShFs (P : Program) : List TypeId → List AV → Prop
  | [], q => q = []
  | t :: ts, q => ∃ r q', q = r ++ q' ∧ ShE P t r ∧ ShFs P ts q'
theorem shFs_of {P : Program} : ∀ {ts : List TypeId} {parts : List (List AV)}, parts.length = ts.length → (∀ (j : Nat) (t : TypeId), ts[j]? = some t → ∃ r, parts[j]? = some r ∧ ShE P t r) → ShFs P ts parts.flatten
  | [], [], _, _ => rfl
  | [], _ :: _, h, _ => by simp at h
  | _ :: _, [], h, _ => by simp at h
  | t :: ts, p :: parts, h, hp => by
    obtain ⟨r, h1, h2⟩ := hp 0 t rfl
    cases h1
    exact ⟨p, parts.flatten, by simp, h2, shFs_of (by simpa using h) fun j t' ht => hp (j + 1) t' ht⟩
theorem sh_fields {P : Program} {t : TypeId} {l : List (Nat × TypeId)} {size bytes : Nat} {z q : List AV} {eq : Bool} (ht : tyOf P t = some ⟨.struct l, size, bytes, z, eq⟩) (h : ShE P t q) : ShFs P (l.map (·.2)) q := by
  unfold tyOf at ht
  split at ht
  · rename_i i d hi hd
    split at ht
    · split at ht
      · simp only [Option.some.injEq, TyI.mk.injEq] at ht
        obtain ⟨hk, _⟩ := ht
        cases d with
        | struct fs =>
          simp only [kindOf, TyK.struct.injEq] at hk
          obtain ⟨parts, h1, rfl, h3⟩ := sh_struct hd h
          refine shFs_of (by rw [h1, ← hk]; simp) fun j t' hj => ?_
          rw [← hk] at hj
          simp only [List.map_map, List.getElem?_map, Array.getElem?_toList] at hj
          cases hf : fs[j]? with
          | none => rw [hf] at hj; cases hj
          | some f =>
            rw [hf] at hj
            simp only [Option.map_some, Option.some.injEq, Function.comp_apply] at hj
            subst hj
            exact h3 j f hf
        | _ => simp [kindOf] at hk
      · cases ht
    · cases ht
  · cases ht
theorem shV_agg {P : Program} {t : TypeId} {l : List (Nat × TypeId)} {size bytes : Nat} {z : List AV} {av : AV} {eq : Bool} (ht : tyOf P t = some ⟨.struct l, size, bytes, z, eq⟩) (h : ShV P t av) : ∃ avs, av = .agg avs ∧ ShE P t avs := by
  unfold tyOf at ht
  split at ht
  · rename_i i d hi hd
    split at ht
    · split at ht
      · simp only [Option.some.injEq, TyI.mk.injEq] at ht
        obtain ⟨hk, _⟩ := ht
        cases d with
        | struct fs => exact shV_struct hd h
        | _ => simp [kindOf] at hk
      · cases ht
    · cases ht
  · cases ht
theorem shV_rows {P : Program} {t e : TypeId} {av : AV} {α : Type} {enc : α → List AV} {wf : α → Prop} (hu : P.underlying t = some (.slice e)) (he : ∀ q, ShE P e q → ∃ x, q = enc x ∧ wf x) (h : ShV P t av) :
    ∃ l : List α, av = .sl (l.map enc) .no ∧ l.length ≤ maxLen ∧ ∀ x ∈ l, wf x := by
  obtain ⟨els, rfl, hq, hlen⟩ := shV_slice hu h
  have : ∀ els : List (List AV), (∀ q ∈ els, ShE P e q) → ∃ l : List α, els = l.map enc ∧ ∀ x ∈ l, wf x := by
    intro els
    induction els with
    | nil => intro _; exact ⟨[], rfl, fun _ h => by cases h⟩
    | cons q r ih =>
      intro hq
      obtain ⟨n, rfl, hw⟩ := he q (hq q (by simp))
      obtain ⟨l, rfl, hl⟩ := ih fun q' h' => hq q' (by simp [h'])
      exact ⟨n :: l, rfl, fun x hx => by
        rcases List.mem_cons.1 hx with rfl | hx
        · exact hw
        · exact hl x hx⟩
  obtain ⟨l, rfl, hl⟩ := this els hq
  exact ⟨l, rfl, by simpa using hlen, hl⟩
end Go.Ab
end
