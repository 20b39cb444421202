/- What these functions compute, as plain functions. No condition. -/
import Derived.Test.YtefdnbpigfojcaaDoorTs
import Derived.Test.YtefdnbpigfojcaaDoorM03
import Derived.Test.YtefdnbpigfojcaaDoorWb
import Derived.Lib.UnsafeStr
section
namespace Go.Proofs
open Go.Ab
noncomputable def gInternalStringsliteHasPrefix (x0 : ByteArray) (x1 : ByteArray) : Option Bool :=
  need (Under (leqI (lenS x1) (lenS x0)) true (CutB 0 (lenS x1) (lenS x0))) <|
  some (pickB (leqI (lenS x1) (lenS x0)) (eqS (cutS x0 0 (lenS x1)) x1) false)

noncomputable def gStringsHasPrefix (x0 : ByteArray) (x1 : ByteArray) : Option Bool :=
  ((gInternalStringsliteHasPrefix x0 x1)).bind fun r1 =>
  some r1

noncomputable def gLabelClass (x0 : Int) : Option Int :=
  bif (pickB (pickB (eqI x0 45) true (eqI x0 95)) true (eqI x0 46)) then (
    some 3
  ) else (
    need (I32B x0) <|
    bif (letterR x0) then (
      some 1
    ) else (
      need (I32B x0) <|
      bif (digitR x0) then (
        some 2
      ) else (
        some 0
      )
    )
  )

noncomputable def gLabelCheck.loop1 (x0 : ByteArray) (s1 : Int × Int × Nat) : Option (Fl (Int × Int × Nat) (Fl (Int × Int) Int)) :=
  bif (nextB x0 s1.2.2) then (
    ((gLabelClass (runeS x0 s1.2.2))).bind fun r1 =>
    need (Under (eqI (runeS x0 s1.2.2) 65533) true (Under (pickB (eqI r1 0) true (pickB (eqI r1 3) (eqI s1.2.1 3) false)) false (CutB (posI s1.2.2) (lenS x0) (lenS x0)))) <|
    need (Under (eqI (runeS x0 s1.2.2) 65533) true (Under (pickB (eqI r1 0) true (pickB (eqI r1 3) (eqI s1.2.1 3) false)) false ((gStringsHasPrefix (cutS x0 (posI s1.2.2) (lenS x0)) ⟨#[239, 191, 189]⟩).isSome = true))) <|
    bif (pickB (pickB (eqI r1 0) true (pickB (eqI r1 3) (eqI s1.2.1 3) false)) true (pickB (eqI (runeS x0 s1.2.2) 65533) (notB ((gStringsHasPrefix (cutS x0 (posI s1.2.2) (lenS x0)) ⟨#[239, 191, 189]⟩).getD dflt)) false)) then (
      some (.out (.out 6))
    ) else (
      some (.go ((addI .i64 s1.1 1), r1, (stepS x0 s1.2.2)))
    )
  ) else (
    some (.out (.go (s1.1, s1.2.1)))
  )

noncomputable def gLabelCheck (x0 : ByteArray) : Option Int :=
  bif (pickB (eqS x0 ⟨#[]⟩) true (ltI 64 (lenS x0))) then (
    some 6
  ) else (
    ((loopF (gLabelCheck.loop1 x0) (0, 3, 0)).bind fun f => flC f fun (v1 : Int × Int) =>
      bif (pickB (ltI 16 v1.1) true (eqI v1.2 3)) then (
        some 6
      ) else (
        some 0
      )
    )
  )

noncomputable def gLabelFold.loop1 (x0 : ByteArray) (s1 : List Int × Nat) : Option (Fl (List Int × Nat) (Fl (List Int) ByteArray)) :=
  bif (nextB x0 s1.2) then (
    need (I32B (lowerR (runeS x0 s1.2))) <|
    need (AppB (lenL s1.1) 4 1) <|
    some (.go ((appL s1.1 (runeZ (lowerR (runeS x0 s1.2)))), (stepS x0 s1.2)))
  ) else (
    some (.out (.go s1.1))
  )

noncomputable def gLabelFold (x0 : ByteArray) : Option ByteArray :=
  ((loopF (gLabelFold.loop1 x0) ([], 0)).bind fun f => flC f fun (v1 : List Int) =>
    need (TextB v1) <|
    some (strOfNums v1)
  )

noncomputable def gLabelSame (x0 : ByteArray) (x1 : ByteArray) : Option Bool :=
  ((gLabelFold x0)).bind fun r1 =>
  ((gLabelFold x1)).bind fun r2 =>
  some (eqS r1 r2)
end Go.Proofs
end
section
namespace Go.Ab
open Go.Proofs

@[simp] theorem bel_opq (m : Nat) (φ : Opq) : (AObj.opq φ).bel m ↔ True := Iff.rfl
@[simp] theorem wrO_bs (T E : TypeId) (bs : List Int) : (wrO T E bs).bs = bs := rfl
/-- The text of all. -/
@[simp] def wrTextS (T E : TypeId) : Sp
  | [.ptr i 0], M => match M[i]? with
    | some (.opq φ) => some { av := .lit (.string (strOfNums φ.bs)), M := some (M.set i (.opq wrX)), obl := φ = wrO T E φ.bs ∧ TextB φ.bs }
    | _ => none
  | _, _ => none

theorem bytes_of {bs : List Int} (h : ∀ x ∈ bs, 0 ≤ x ∧ x < 256) : bs.map (Value.int .u8) = Lib.byteCells (bs.map fun n => n.toNat.toUInt8) := by
  simp only [Lib.byteCells, List.map_map]
  refine List.map_congr_left fun x hx => ?_
  obtain ⟨h1, h2⟩ := h x hx
  simp only [Function.comp, Nat.toUInt8, UInt8.toNat_ofNat']
  congr 1
  omega

theorem textW_ok {P : Program} {f : FuncId} {T E : TypeId} (hent : ∀ args w, (callFunc f args).run P w = .ok (.enter f args) w)
    (hS : ∀ (b g cap : Nat) (w : World) (p : Value) (l : List UInt8) (cur : Array Value), w.heap[b]? = some (.cells #[p, .slice (some ⟨g, 0, none⟩) l.length cap] T (0, 0)) → w.heap[g]? = some (.cells cur E (0, 0)) →
      l.length ≤ cap → cap ≤ maxLen → cur.size = cap → cur.toList.take l.length = Lib.byteCells l → l ≠ [] →
      Calls P f #[.pointer (some ⟨b, 0, none⟩)] w fun e w' => e = .returned (.string ⟨l.toArray⟩) ∧ WrKeep b (some g) w w' ∧ w'.heap.size = w.heap.size) : SpecOk P f (wrTextS T E) := by
  intro l M out h
  unfold wrTextS at h
  split at h
  · rename_i i
    split at h
    · rename_i φ hMi
      cases h
      intro g vs hM sm hr ho
      subst hM
      obtain ⟨hφ, hne, hbb⟩ := ho
      cases hr with | cons hv hr => cases hr with | nil =>
      cases hv with
      | ptr _ _ hi =>
      refine ⟨hent _ _, ?_⟩
      have hq := sm.opq i φ hMi
      rw [hφ] at hq
      obtain ⟨p, v, h1, h2, h3⟩ := hq
      rcases h3 with ⟨_, h, _⟩ | ⟨cap, cur, rfl, h4, h5, h6, h7, h8, h9⟩
      · exact absurd h hne
      generalize hl : φ.bs.map (fun n => n.toNat.toUInt8) = ls
      have hll : ls.length = φ.bs.length := by rw [← hl]; simp
      have hb : φ.bs.map (Value.int .u8) = Lib.byteCells ls := by rw [← hl]; exact bytes_of hbb
      have hstr : (⟨ls.toArray⟩ : ByteArray) = strOfNums φ.bs := by
        rw [← hl]; rfl
      simp only [wrO] at h1 h5 h6 h9
      refine (hS (g.β i) (g.ρ i).b cap g.w p ls cur (by rw [hll]; exact h1) h5 (by omega) h7 h8 (by rw [hll, ← hb]; exact h9) (fun e => hne (List.eq_nil_of_length_eq_zero (by rw [← hll, e]; rfl)))).mono ?_
      rintro e w' ⟨rfl, k1, k2⟩
      obtain ⟨kk, ss⟩ := opq_turn sm hMi (φ' := wrX) (w' := w') (rb := (g.ρ i).b) k1.size ⟨k1.os, k1.output⟩ (fun k q1 q2 q3 => k1.block k q1 q2 (by simpa using q3)) (.inl rfl) trivial
      refine ⟨_, rfl, g.β, _, ss, ?_, kk⟩
      rw [hstr]
      exact .lit _
    · cases h
  · cases h
end Go.Ab
end
