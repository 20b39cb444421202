/- Runs on fixed data: an object is set aside while code runs that does not ask for it. No condition: over any program. -/
import Derived.Test.YtjjjeolcapebbaaGreatDoorEz
namespace Go.Ab
section
variable {P : Program} {ty : TyTab} {Γ : Gam}

/-- An object is set aside. -/
def hid (g : G) (i : Nat) (o : AObj) : G := ⟨g.M.set i .dead, g.β, g.ρ, g.w, fun a => g.X a ∨ o.covers (g.β i) (g.ρ i) a⟩
theorem set_get {M : List AObj} {i j : Nat} {o o' : AObj} (h : (M.set i o')[j]? = some o) (hi : i < M.length) : (j ≠ i ∧ M[j]? = some o) ∨ (j = i ∧ o = o') := by
  rw [List.getElem?_set] at h
  by_cases hj : i = j
  · subst hj
    rw [if_pos rfl, if_pos hi] at h
    exact .inr ⟨rfl, (Option.some.inj h).symm⟩
  · rw [if_neg hj] at h
    exact .inl ⟨fun e => hj e.symm, h⟩
theorem get_lt {M : List AObj} {i : Nat} {o : AObj} (h : M[i]? = some o) : i < M.length := by
  rcases Nat.lt_or_ge i M.length with q | q
  · exact q
  · simp [List.getElem?_eq_none q] at h
theorem hid_reg {g : G} {i : Nat} {o : AObj} (hM : g.M[i]? = some o) {a : Addr} (h : (hid g i o).reg a) : g.reg a := by
  rcases h with (h | h) | ⟨j, oj, hj, hc⟩
  · exact .inl h
  · exact reg_of hM h
  · rcases set_get hj (get_lt hM) with ⟨_, h⟩ | ⟨_, rfl⟩
    · exact reg_of h hc
    · exact hc.elim
theorem hid_keep {g : G} {i : Nat} {o : AObj} (hM : g.M[i]? = some o) : Keep g (hid g i o) where
  len := by simp [hid]
  ptr _ _ := rfl
  rooms t _ e' he' := by
    rcases set_get he' (get_lt hM) with ⟨_, h⟩ | ⟨_, h⟩
    · exact ⟨e', h, Nat.le_refl _, fun _ => rfl⟩
    · cases h
  size := Nat.le_refl _
  cells _ _ h _ := h
  regs _ _ h h' := h (hid_reg hM h')
  blocks _ _ _ := rfl
  io := ⟨rfl, rfl⟩
  xs _ h := .inl h
  xcell _ _ _ := ⟨rfl, rfl⟩
  xblk _ _ _ := rfl
theorem hid_sim {g : G} {i : Nat} {o : AObj} (hM : g.M[i]? = some o) (s : Sim g) : Sim (hid g i o) := by
  have k := (hid_keep hM).toKeep0
  have get : ∀ {j : Nat} {q : AObj}, (hid g i o).M[j]? = some q → q ≠ .dead → j ≠ i ∧ g.M[j]? = some q := fun {j q} h hq => by
    rcases set_get h (get_lt hM) with h | ⟨_, h⟩
    · exact h
    · exact absurd h hq
  have inb : ∀ a, (hid g i o).reg a → a.block < g.w.heap.size := fun a ha => s.inb a (hid_reg hM ha)
  refine ⟨s.fct.keep0 k, fun j cells hj => ?_, fun j t pos hj => ?_, fun t e ht q hq => ?_, fun j1 j2 o1 o2 a h1 h2 c1 c2 => ?_, inb, fun a hx hr => ?_, fun j es hj => ?_, fun j es vis cur t hj => ?_, fun j ψ hj => ?_, fun j Po cur hj => ?_, fun j z els hj => ?_⟩
  · obtain ⟨xs, T, h1, h2, h3, h4⟩ := s.blk j cells (get hj (by simp)).2
    exact ⟨xs, T, h1, h2, fun q hq => (h3 q hq).keep0 k, h4⟩
  · exact s.iter j t pos (get hj (by simp)).2
  · exact s.room t e (get ht (by simp)).2 q hq
  · have n1 : o1 ≠ .dead := fun e => by rw [e] at c1; exact c1.elim
    have n2 : o2 ≠ .dead := fun e => by rw [e] at c2; exact c2.elim
    exact s.disj j1 j2 o1 o2 a (get h1 n1).2 (get h2 n2).2 c1 c2
  · obtain ⟨j, oj, hj, hc⟩ := hr
    have nd : oj ≠ .dead := fun e => by rw [e] at hc; exact hc.elim
    obtain ⟨q1, q2⟩ := get hj nd
    rcases hx with hx | hx
    · exact s.xdis a hx ⟨j, oj, q2, hc⟩
    · exact q1 (s.disj j i oj o a q2 hM hc hx)
  · obtain ⟨q, h1, h2⟩ := s.mapo j es (get hj (by simp)).2
    exact ⟨q, h1, h2.keep0 k⟩
  · obtain ⟨t1, t2, q, oi, h1, h2, h3⟩ := s.mapr j es vis cur t (get hj (by simp)).2
    exact ⟨by simpa [hid] using t1, t2, q, oi, h1, h2, h3.keep0 k⟩
  · exact s.opq j ψ (get hj (by simp)).2
  · exact s.ownKeep k inb (get hj (by simp)).2 hj rfl rfl fun _ _ => rfl
  · exact (s.arr j z els (get hj (by simp)).2).keep0 k fun _ => rfl

/-- It comes back as it was. -/
def sho (g g' : G) (i : Nat) (o : AObj) : G := ⟨g'.M.set i o, g'.β, upd g'.ρ i (g.ρ i), g'.w, g.X⟩
theorem sho_all {g g' : G} {i : Nat} {es : List (AV × AV)} {vis : List Value} {cur : Option Value} {u : Nat} (hM : g.M[i]? = some (.mapr es vis cur u)) (s : Sim g) (k : Keep (hid g i (.mapr es vis cur u)) g') (s' : Sim g')
    (hX : g'.X = (hid g i (.mapr es vis cur u)).X) (hd : g'.M[i]? = some .dead) : Sim (sho g g' i (.mapr es vis cur u)) ∧ Keep g (sho g g' i (.mapr es vis cur u)) ∧ Keep0 g' (sho g g' i (.mapr es vis cur u)) := by
  have kh := hid_keep hM
  have hβ : g'.β i = g.β i := k.ptr i (by simp only [hid, List.length_set]; exact get_lt hM)
  have get : ∀ {j : Nat} {q : AObj}, (sho g g' i (.mapr es vis cur u)).M[j]? = some q → (j ≠ i ∧ g'.M[j]? = some q) ∨ (j = i ∧ q = .mapr es vis cur u) := fun {j q} h => set_get h (get_lt hd)
  have cov : ∀ a, (AObj.mapr es vis cur u).covers (g'.β i) (g.ρ i) a → g'.X a := fun a ha => by rw [hX]; rw [hβ] at ha; exact .inr ha
  have xin : ∀ a, g.X a → g'.X a := fun a ha => by rw [hX]; exact .inl ha
  have reg : ∀ a, (sho g g' i (.mapr es vis cur u)).reg a → g'.reg a := fun a ha => by
    rcases ha with ha | ⟨j, q, hj, hc⟩
    · exact .inl (xin a ha)
    · rcases get hj with ⟨n, h⟩ | ⟨rfl, rfl⟩
      · simp only [sho, upd_other _ _ n] at hc
        exact reg_of h hc
      · simp only [sho, upd_same] at hc
        exact .inl (cov a hc)
  have k0 : Keep0 g' (sho g g' i (.mapr es vis cur u)) := by
    refine ⟨by simp [sho], fun _ _ => rfl, fun t _ e' he' => ?_, Nat.le_refl _, fun _ _ h _ => h, fun a _ h h' => h (reg a h'), fun _ _ _ => rfl, ⟨rfl, rfl⟩⟩
    rcases get he' with ⟨n, h⟩ | ⟨_, h⟩
    · exact ⟨e', h, Nat.le_refl _, fun _ => by simp only [sho, upd_other _ _ n]⟩
    · cases h
  have kk : Keep g g' := kh.trans k
  have K0 : Keep0 g (sho g g' i (.mapr es vis cur u)) := by
    refine ⟨by have := kk.len; simpa [sho] using this, fun j hj => kk.ptr j hj, fun t ht e' he' => ?_, kk.size, fun a x hx hr => kk.cells a x hx hr, fun a ha hr h' => kk.regs a ha hr (reg a h'), fun b hb hr => kk.blocks b hb hr, kk.io⟩
    rcases get he' with ⟨n, h⟩ | ⟨_, h⟩
    · obtain ⟨e, h1, h2, h3⟩ := kk.rooms t ht e' h
      exact ⟨e, h1, h2, fun q => by simp only [sho, upd_other _ _ n]; exact h3 q⟩
    · cases h
  have inb : ∀ a, (sho g g' i (.mapr es vis cur u)).reg a → a.block < g'.w.heap.size := fun a ha => s'.inb a (reg a ha)
  refine ⟨?_, ⟨K0, fun _ h => h, fun a ha hx => ?_, fun b hb hx => ?_⟩, k0⟩
  · refine ⟨s'.fct.keep0 k0, fun j cells hj => ?_, fun j t pos hj => ?_, fun t e ht q hq => ?_, fun j1 j2 o1 o2 a h1 h2 c1 c2 => ?_, inb, fun a hx hr => ?_, fun j es hj => ?_, fun j es1 vis1 cur1 t hj => ?_, fun j ψ hj => ?_, fun j Po cur hj => ?_, fun j z els hj => ?_⟩
    · rcases get hj with ⟨_, h⟩ | ⟨_, h⟩
      · obtain ⟨xs, T, h1, h2, h3, h4⟩ := s'.blk j cells h
        exact ⟨xs, T, h1, h2, fun q hq => (h3 q hq).keep0 k0, h4⟩
      · cases h
    · rcases get hj with ⟨_, h⟩ | ⟨_, h⟩
      · exact s'.iter j t pos h
      · cases h
    · rcases get ht with ⟨n, h⟩ | ⟨_, h⟩
      · simp only [sho, upd_other _ _ n] at hq ⊢
        exact s'.room t e h q hq
      · cases h
    · rcases get h1 with ⟨n1, g1⟩ | ⟨e1, r1⟩ <;> rcases get h2 with ⟨n2, g2⟩ | ⟨e2, r2⟩
      · simp only [sho, upd_other _ _ n1, upd_other _ _ n2] at c1 c2
        exact s'.disj j1 j2 o1 o2 a g1 g2 c1 c2
      · subst e2 r2
        simp only [sho, upd_other _ _ n1, upd_same] at c1 c2
        exact absurd ⟨j1, o1, g1, c1⟩ (s'.xdis a (cov a c2))
      · subst e1 r1
        simp only [sho, upd_other _ _ n2, upd_same] at c1 c2
        exact absurd ⟨j2, o2, g2, c2⟩ (s'.xdis a (cov a c1))
      · rw [e1, e2]
    · obtain ⟨j, q, hj, hc⟩ := hr
      rcases get hj with ⟨n, h⟩ | ⟨rfl, rfl⟩
      · simp only [sho, upd_other _ _ n] at hc
        exact s'.xdis a (xin a hx) ⟨j, q, h, hc⟩
      · simp only [sho, upd_same] at hc
        rw [hβ] at hc
        exact s.xdis a hx ⟨j, _, hM, hc⟩
    · rcases get hj with ⟨_, h⟩ | ⟨_, h⟩
      · obtain ⟨o, h1, h2⟩ := s'.mapo j es h
        exact ⟨o, h1, h2.keep0 k0⟩
      · cases h
    · rcases get hj with ⟨n, h⟩ | ⟨rfl, h⟩
      · obtain ⟨t1, t2, o, oi, h1, h2, h3⟩ := s'.mapr j es1 vis1 cur1 t h
        simp only [sho, upd_other _ _ n]
        exact ⟨by simpa using t1, t2, o, oi, h1, h2, h3.keep0 k0⟩
      · cases h
        obtain ⟨t1, t2, o, oi, h1, h2, h3⟩ := s.mapr j es vis cur u hM
        have hb : ∀ b, (AObj.mapr es vis cur u).whole (g.β j) (g.ρ j) b → g'.w.heap[b]? = g.w.heap[b]? := fun b hb =>
          k.xblk b (whole_lt s hM hb) fun off => .inr (AObj.whole.covers hb off)
        simp only [sho, upd_same]
        refine ⟨by have := kk.len; simp only [List.length_set]; omega, t2.trans (kk.ptr u t1).symm, o, oi, ?_, ?_, ?_⟩
        · rw [hβ]; exact (hb _ (.inl rfl)).trans h1
        · exact (hb _ (.inr rfl)).trans h2
        · rw [hβ]; exact h3.keep0 K0
    · rcases get hj with ⟨n, h⟩ | ⟨_, h⟩
      · have := s'.opq j ψ h
        simp only [sho, upd_other _ _ n]
        exact this
      · cases h
    · rcases get hj with ⟨n, h⟩ | ⟨_, h⟩
      · exact s'.ownKeep k0 inb h hj rfl (by simp only [sho, upd_other _ _ n]) fun _ _ => rfl
      · cases h
    · rcases get hj with ⟨_, h⟩ | ⟨_, h⟩
      · exact (s'.arr j z els h).keep0 k0 fun _ => rfl
      · cases h
  · exact kk.xcell a ha hx
  · exact kk.xblk b hb hx
end
end Go.Ab
