/- What these functions compute, as plain functions. No condition. -/
import Derived.Test.YtbijdlgffebenaaTs
import Derived.Test.YtbijdlgffebenaaKl
import Derived.Test.YtbijdlgffebenaaM01
import Derived.Test.YtbijdlgffebenaaGl
section
namespace Go.Proofs
open Go.Ab
noncomputable def gReorderConfigCheck (x0 : ReorderConfig) : Option Int :=
  bif (pickB (pickB (pickB (ltI x0.fMost 1) true (ltI 1024 x0.fMost)) true (ltI x0.fWait 0)) true (ltI 1099511627776 x0.fWait)) then (
    some 5
  ) else (
    some 0
  )

noncomputable def gReorderNew (x0 : ReorderConfig) : Option (Option ReorderBuffer × Int) :=
  ((gReorderConfigCheck x0)).bind fun r1 =>
  bif (neI r1 0) then (
    some (none, r1)
  ) else (
    some ((some (ReorderBuffer.mk x0 false 0 [] 0)), 0)
  )

noncomputable def gReorderBufferLen (x0 : ReorderBuffer) : Option Int :=
  some (lenL x0.fOf)

noncomputable def gReorderBufferLost (x0 : ReorderBuffer) : Option Int :=
  some x0.fLost

noncomputable def gReorderBufferRun.loop1 (x0 : ReorderBuffer) (s1 : Nat × List Antiphonref09Thing × Int × (List (Int × Antiphonref09Thing))) : Option (Fl (Nat × List Antiphonref09Thing × Int × (List (Int × Antiphonref09Thing))) (Fl Unit (List Antiphonref09Thing × Nat × ReorderBuffer))) :=
  bif (notB (hasM eqI s1.2.2.1 s1.2.2.2)) then (
    some (.out (.out (s1.2.1, s1.1, (ReorderBuffer.mk x0.fConfig x0.fBegun s1.2.2.1 s1.2.2.2 x0.fLost))))
  ) else (
    need (AppB (lenL s1.2.1) 1 32) <|
    some (.go ((s1.1 + 1), (appL s1.2.1 [(getM eqI s1.2.2.1 (Antiphonref09Thing.mk 0 ⟨⟨[]⟩⟩ 0) s1.2.2.2)]), (addI .i64 s1.2.2.1 1), (delM eqI s1.2.2.1 s1.2.2.2)))
  )

noncomputable def gReorderBufferRun (x0 : ReorderBuffer) : Option (List Antiphonref09Thing × Nat × ReorderBuffer) :=
  ((loopF (gReorderBufferRun.loop1 x0) (0, [], x0.fNext, x0.fOf)).bind fun f => flC f fun (_v1 : Unit) =>
    none
  )
end Go.Proofs
end
section
namespace Go.Ab
/-- What the text of a Writer asks of its bytes. -/
def TextB (bs : List Int) : Prop := bs ≠ [] ∧ ∀ x ∈ bs, 0 ≤ x ∧ x < 256
instance (bs : List Int) : Decidable (TextB bs) := inferInstanceAs (Decidable (bs ≠ [] ∧ ∀ x ∈ bs, 0 ≤ x ∧ x < 256))
end Go.Ab
end
section

end
section

end
section
namespace Go.Proofs
open Go.Ab
noncomputable def gReorderBufferFirst (x0 : ReorderBuffer) : Option Int :=
  need (KeysB (keysM x0.fOf)) <|
  need (MinB (keysM x0.fOf)) <|
  some (minL (keysM x0.fOf))

noncomputable def gReorderBufferSkip (x0 : ReorderBuffer) : Option (List Antiphonref09Thing × Nat × ReorderBuffer) :=
  ((gReorderBufferFirst x0)).bind fun r1 =>
  ((gReorderBufferRun (ReorderBuffer.mk x0.fConfig x0.fBegun r1 x0.fOf (addI .i64 x0.fLost (subI .i64 r1 x0.fNext))))).bind fun r2 =>
  some (r2.1, r2.2.1, r2.2.2)

noncomputable def gReorderBufferMissing.loop2 (x0 : ReorderBuffer) (x1 : Int) (s1 : Int × Int × List Int) (s2 : Int × List Int) : Option (Fl (Int × List Int) (Fl (List Int) (Fl (Int × Int × List Int) (Fl (List Int) (List Int))))) :=
  bif (pickB (ltI s2.1 (nthI (sortL (keysM x0.fOf)) s1.1)) (ltI (lenL s2.2) x1) false) then (
    need (AppB (lenL s2.2) 1 8) <|
    some (.go ((addI .i64 s2.1 1), (appL s2.2 [s2.1])))
  ) else (
    some (.out (.go s2.2))
  )

noncomputable def gReorderBufferMissing.loop1 (x0 : ReorderBuffer) (x1 : Int) (s1 : Int × Int × List Int) : Option (Fl (Int × Int × List Int) (Fl (List Int) (List Int))) :=
  bif (ltI s1.1 (lenL (sortL (keysM x0.fOf)))) then (
    need (InB s1.1 (lenL (sortL (keysM x0.fOf)))) <|
    ((loopF (gReorderBufferMissing.loop2 x0 x1 s1) (s1.2.1, s1.2.2)).bind fun f => flC f fun (v2 : List Int) =>
      some (.go ((addI .i64 s1.1 1), (addI .i64 (nthI (sortL (keysM x0.fOf)) s1.1) 1), v2))
    )
  ) else (
    some (.out (.go s1.2.2))
  )

noncomputable def gReorderBufferMissing (x0 : ReorderBuffer) (x1 : Int) : Option (List Int) :=
  need (KeysB (keysM x0.fOf)) <|
  ((loopF (gReorderBufferMissing.loop1 x0 x1) (0, x0.fNext, [])).bind fun f => flC f fun (v1 : List Int) =>
    some v1
  )

noncomputable def gReorderBufferPut.loop2  (s2 : List Antiphonref09Thing × ReorderConfig × Bool × Int × Int × (List (Int × Antiphonref09Thing))) : Option (Fl (List Antiphonref09Thing × ReorderConfig × Bool × Int × Int × (List (Int × Antiphonref09Thing))) (Fl (List Antiphonref09Thing × ReorderConfig × Bool × Int × Int × (List (Int × Antiphonref09Thing))) (List Antiphonref09Thing × Int × ReorderBuffer))) :=
  bif (ltI s2.2.1.fMost (lenL s2.2.2.2.2.2)) then (
    ((gReorderBufferSkip (ReorderBuffer.mk s2.2.1 s2.2.2.1 s2.2.2.2.1 s2.2.2.2.2.2 s2.2.2.2.2.1))).bind fun r2 =>
    need (AppB (lenL s2.1) (lenL r2.1) 32) <|
    some (.go ((appL s2.1 r2.1), r2.2.2.fConfig, r2.2.2.fBegun, r2.2.2.fNext, r2.2.2.fLost, r2.2.2.fOf))
  ) else (
    some (.out (.go (s2.1, s2.2.1, s2.2.2.1, s2.2.2.2.1, s2.2.2.2.2.1, s2.2.2.2.2.2)))
  )

noncomputable def gReorderBufferPut (x0 : ReorderBuffer) (x1 : Antiphonref09Thing) : Option (List Antiphonref09Thing × Int × ReorderBuffer) :=
  ((
    bif (notB x0.fBegun) then (
      some (.go (true, x1.fAt))
    ) else (
      some (.go (x0.fBegun, x0.fNext))
    )
    : Option (Fl (Bool × Int) (List Antiphonref09Thing × Int × ReorderBuffer))).bind fun f => flC f fun (v1 : Bool × Int) =>
    bif (ltI x1.fAt v1.2) then (
      some ([], 13, (ReorderBuffer.mk x0.fConfig v1.1 v1.2 x0.fOf x0.fLost))
    ) else (
      bif (hasM eqI x1.fAt x0.fOf) then (
        some ([], 14, (ReorderBuffer.mk x0.fConfig v1.1 v1.2 x0.fOf x0.fLost))
      ) else (
        ((gReorderBufferRun (ReorderBuffer.mk x0.fConfig v1.1 v1.2 (setM eqI x1.fAt x1 x0.fOf) x0.fLost))).bind fun r1 =>
        ((loopF gReorderBufferPut.loop2 (r1.1, r1.2.2.fConfig, r1.2.2.fBegun, r1.2.2.fNext, r1.2.2.fLost, r1.2.2.fOf)).bind fun f => flC f fun (v2 : List Antiphonref09Thing × ReorderConfig × Bool × Int × Int × (List (Int × Antiphonref09Thing))) =>
          some (v2.1, 0, (ReorderBuffer.mk v2.2.1 v2.2.2.1 v2.2.2.2.1 v2.2.2.2.2.2 v2.2.2.2.2.1))
        )
      )
    )
  )

noncomputable def gReorderBufferTick.loop1 (x1 : Int) (s1 : List Antiphonref09Thing × ReorderConfig × Bool × Int × Int × (List (Int × Antiphonref09Thing))) : Option (Fl (List Antiphonref09Thing × ReorderConfig × Bool × Int × Int × (List (Int × Antiphonref09Thing))) (Fl (List Antiphonref09Thing × ReorderConfig × Bool × Int × Int × (List (Int × Antiphonref09Thing))) (List Antiphonref09Thing × ReorderBuffer))) :=
  bif (ltI 0 (lenL s1.2.2.2.2.2)) then (
    ((gReorderBufferFirst (ReorderBuffer.mk s1.2.1 s1.2.2.1 s1.2.2.2.1 s1.2.2.2.2.2 s1.2.2.2.2.1))).bind fun r1 =>
    bif (ltI (subI .i64 x1 ((getM eqI r1 (Antiphonref09Thing.mk 0 ⟨⟨[]⟩⟩ 0) s1.2.2.2.2.2).fTick)) s1.2.1.fWait) then (
      some (.out (.go (s1.1, s1.2.1, s1.2.2.1, s1.2.2.2.1, s1.2.2.2.2.1, s1.2.2.2.2.2)))
    ) else (
      ((gReorderBufferSkip (ReorderBuffer.mk s1.2.1 s1.2.2.1 s1.2.2.2.1 s1.2.2.2.2.2 s1.2.2.2.2.1))).bind fun r2 =>
      need (AppB (lenL s1.1) (lenL r2.1) 32) <|
      some (.go ((appL s1.1 r2.1), r2.2.2.fConfig, r2.2.2.fBegun, r2.2.2.fNext, r2.2.2.fLost, r2.2.2.fOf))
    )
  ) else (
    some (.out (.go (s1.1, s1.2.1, s1.2.2.1, s1.2.2.2.1, s1.2.2.2.2.1, s1.2.2.2.2.2)))
  )

noncomputable def gReorderBufferTick (x0 : ReorderBuffer) (x1 : Int) : Option (List Antiphonref09Thing × ReorderBuffer) :=
  ((loopF (gReorderBufferTick.loop1 x1) ([], x0.fConfig, x0.fBegun, x0.fNext, x0.fLost, x0.fOf)).bind fun f => flC f fun (v1 : List Antiphonref09Thing × ReorderConfig × Bool × Int × Int × (List (Int × Antiphonref09Thing))) =>
    some (v1.1, (ReorderBuffer.mk v1.2.1 v1.2.2.1 v1.2.2.2.1 v1.2.2.2.2.2 v1.2.2.2.2.1))
  )

noncomputable def gReorderBufferFlush.loop1  (s1 : List Antiphonref09Thing × ReorderConfig × Bool × Int × Int × (List (Int × Antiphonref09Thing))) : Option (Fl (List Antiphonref09Thing × ReorderConfig × Bool × Int × Int × (List (Int × Antiphonref09Thing))) (Fl (List Antiphonref09Thing × ReorderConfig × Bool × Int × Int × (List (Int × Antiphonref09Thing))) (List Antiphonref09Thing × ReorderBuffer))) :=
  bif (ltI 0 (lenL s1.2.2.2.2.2)) then (
    ((gReorderBufferSkip (ReorderBuffer.mk s1.2.1 s1.2.2.1 s1.2.2.2.1 s1.2.2.2.2.2 s1.2.2.2.2.1))).bind fun r1 =>
    need (AppB (lenL s1.1) (lenL r1.1) 32) <|
    some (.go ((appL s1.1 r1.1), r1.2.2.fConfig, r1.2.2.fBegun, r1.2.2.fNext, r1.2.2.fLost, r1.2.2.fOf))
  ) else (
    some (.out (.go (s1.1, s1.2.1, s1.2.2.1, s1.2.2.2.1, s1.2.2.2.2.1, s1.2.2.2.2.2)))
  )

noncomputable def gReorderBufferFlush (x0 : ReorderBuffer) : Option (List Antiphonref09Thing × ReorderBuffer) :=
  ((loopF gReorderBufferFlush.loop1 ([], x0.fConfig, x0.fBegun, x0.fNext, x0.fLost, x0.fOf)).bind fun f => flC f fun (v1 : List Antiphonref09Thing × ReorderConfig × Bool × Int × Int × (List (Int × Antiphonref09Thing))) =>
    some (v1.1, (ReorderBuffer.mk v1.2.1 v1.2.2.1 v1.2.2.2.1 v1.2.2.2.2.2 v1.2.2.2.2.1))
  )
end Go.Proofs
end
section
namespace Go.Proofs
open Go.Ab
noncomputable def gSlicesMinInt64Int64.loop2 (x0 : List Int) (s2 : Int × Int) : Option (Fl (Int × Int) (Fl Int Int)) :=
  bif (ltI s2.1 (lenL x0)) then (
    need (InB s2.1 (lenL x0)) <|
    some (.go ((addI .i64 s2.1 1), (minI s2.2 (nthI x0 s2.1))))
  ) else (
    some (.out (.go s2.2))
  )

noncomputable def gSlicesMinInt64Int64 (x0 : List Int) : Option Int :=
  ((
    bif (ltI (lenL x0) 1) then (
      none
    ) else (
      some (.go ())
    )
    : Option (Fl Unit Int)).bind fun f => flC f fun (_v1 : Unit) =>
    need (InB 0 (lenL x0)) <|
    ((loopF (gSlicesMinInt64Int64.loop2 x0) (1, (nthI x0 0))).bind fun f => flC f fun (v2 : Int) =>
      some v2
    )
  )
end Go.Proofs
end
section
namespace Go.Proofs
open Go.Ab
variable {V : Type}

theorem hasM_iff {k : Int} : ∀ {m : List (Int × V)}, hasM eqI k m = true ↔ k ∈ keysM m
  | [] => by simp [hasM, keysM]
  | e :: r => by
    have ih := hasM_iff (k := k) (m := r)
    simp only [hasM, keysM, List.map_cons, List.mem_cons]
    by_cases h : k = e.1
    · rw [eqI_t h]; simp [pickB, h]
    · rw [eqI_f h]; simp only [pickB, cond_false, h, false_or]; exact ih
theorem hasM_t {k : Int} {m : List (Int × V)} (h : k ∈ keysM m) : hasM eqI k m = true := hasM_iff.2 h
theorem hasM_f {k : Int} {m : List (Int × V)} (h : k ∉ keysM m) : hasM eqI k m = false := by
  cases hh : hasM eqI k m with
  | false => rfl
  | true => exact absurd (hasM_iff.1 hh) h

theorem getM_of {k : Int} {v z : V} : ∀ {m : List (Int × V)}, (keysM m).Nodup → (k, v) ∈ m → getM eqI k z m = v
  | e :: r, hn, h => by
    simp only [keysM, List.map_cons, List.nodup_cons] at hn
    simp only [getM]
    cases h with
    | head => rw [eqI_t rfl]; rfl
    | tail _ h =>
      have hne : k ≠ e.1 := fun q => hn.1 (List.mem_map.2 ⟨(k, v), h, q⟩)
      rw [eqI_f hne]
      simp only [Bool.false_eq_true, if_false]
      exact getM_of hn.2 h
theorem getM_no {k : Int} {z : V} : ∀ {m : List (Int × V)}, k ∉ keysM m → getM eqI k z m = z
  | [], _ => rfl
  | e :: r, h => by
    simp only [keysM, List.map_cons, List.mem_cons, not_or] at h
    simp only [getM, eqI_f h.1, Bool.false_eq_true, if_false]
    exact getM_no h.2

theorem setM_no {k : Int} {v : V} : ∀ {m : List (Int × V)}, k ∉ keysM m → setM eqI k v m = m ++ [(k, v)]
  | [], _ => rfl
  | e :: r, h => by
    simp only [keysM, List.map_cons, List.mem_cons, not_or] at h
    simp only [setM, eqI_f h.1, Bool.false_eq_true, if_false, List.cons_append]
    rw [setM_no h.2]

theorem delM_perm {k : Int} {v : V} : ∀ {m : List (Int × V)}, (keysM m).Nodup → (k, v) ∈ m → m.Perm ((k, v) :: delM eqI k m)
  | e :: r, hn, h => by
    simp only [keysM, List.map_cons, List.nodup_cons] at hn
    simp only [delM]
    cases h with
    | head => rw [eqI_t rfl]; exact List.Perm.refl _
    | tail _ h =>
      have hne : k ≠ e.1 := fun q => hn.1 (List.mem_map.2 ⟨(k, v), h, q⟩)
      rw [eqI_f hne]
      simp only [Bool.false_eq_true, if_false]
      exact ((delM_perm hn.2 h).cons e).trans (List.Perm.swap _ _ _)
theorem delM_of {k : Int} {v : V} {m r : List (Int × V)} (hn : (keysM m).Nodup) (hp : m.Perm ((k, v) :: r)) : (delM eqI k m).Perm r :=
  ((delM_perm hn (hp.mem_iff.2 (.head _))).symm.trans hp).cons_inv
theorem keysM_perm {m m' : List (Int × V)} (h : m.Perm m') : (keysM m).Perm (keysM m') := h.map _
theorem lenL_perm {α : Type} {l l' : List α} (h : l.Perm l') : lenL l = lenL l' := by simp [lenL, h.length_eq]
theorem KeysB_of {l : List Int} (h : ∀ x ∈ l, -9223372036854775808 ≤ x ∧ x ≤ 9223372036854775807) (hl : l.length ≤ 1000000000000) : KeysB l :=
  ⟨fun x hx => by
    obtain ⟨h1, h2⟩ := h x hx
    simp only [Lit.wf, Bool.and_eq_true, decide_eq_true_eq]
    exact ⟨h1, h2⟩, by omega⟩
end Go.Proofs
end
section
namespace Go.Ab
end Go.Ab
end
