/- The text of what a relation describes. No condition. -/
import Derived.Test.YtoaiieheibcnlaaDoorWb
import Derived.Test.YtoaiieheibcnlaaDoorWeD
import Derived.Lib.UnsafeStr
namespace Go.Ab
open Go.Proofs

@[simp] theorem bel_opq (m : Nat) (φ : Opq) : (AObj.opq φ).bel m ↔ True := Iff.rfl
@[simp] theorem wrO_bs (T E : TypeId) (bs : List Int) : (wrO T E bs).bs = bs := rfl
/-- The text of all. -/
@[simp] def wrTextS (T E : TypeId) : Sp
  | [.ptr i 0], M => match M[i]? with
    | some (.opq φ) => some { av := .lit (.string (strOfNums φ.bs)), M := some (M.set i (.opq wrX)), obl := φ = wrO T E φ.bs ∧ TextB φ.bs }
    | _ => none
  | _, _ => none

theorem bytes_of {bs : List Int} (h : ∀ x ∈ bs, 0 ≤ x ∧ x < 256) : bs.map (Value.int .u8) = Lib.byteCells (bs.map fun n => n.toNat.toUInt8) := by
  simp only [Lib.byteCells, List.map_map]
  refine List.map_congr_left fun x hx => ?_
  obtain ⟨h1, h2⟩ := h x hx
  simp only [Function.comp, Nat.toUInt8, UInt8.toNat_ofNat']
  congr 1
  omega

theorem textW_ok {P : Program} {f : FuncId} {T E : TypeId} (hent : ∀ args w, (callFunc f args).run P w = .ok (.enter f args) w)
    (hS : ∀ (b g cap : Nat) (w : World) (p : Value) (l : List UInt8) (cur : Array Value), w.heap[b]? = some (.cells #[p, .slice (some ⟨g, 0, none⟩) l.length cap] T (0, 0)) → w.heap[g]? = some (.cells cur E (0, 0)) →
      l.length ≤ cap → cap ≤ maxLen → cur.size = cap → cur.toList.take l.length = Lib.byteCells l → l ≠ [] →
      Calls P f #[.pointer (some ⟨b, 0, none⟩)] w fun e w' => e = .returned (.string ⟨l.toArray⟩) ∧ WrKeep b (some g) w w' ∧ w'.heap.size = w.heap.size) : SpecOk P f (wrTextS T E) := by
  intro l M out h
  unfold wrTextS at h
  split at h
  · rename_i i
    split at h
    · rename_i φ hMi
      cases h
      intro g vs hM sm hr ho
      subst hM
      obtain ⟨hφ, hne, hbb⟩ := ho
      cases hr with | cons hv hr => cases hr with | nil =>
      cases hv with
      | ptr _ _ hi =>
      refine ⟨hent _ _, ?_⟩
      have hq := sm.opq i φ hMi
      rw [hφ] at hq
      obtain ⟨p, v, h1, h2, h3⟩ := hq
      rcases h3 with ⟨_, h, _⟩ | ⟨cap, cur, rfl, h4, h5, h6, h7, h8, h9⟩
      · exact absurd h hne
      generalize hl : φ.bs.map (fun n => n.toNat.toUInt8) = ls
      have hll : ls.length = φ.bs.length := by rw [← hl]; simp
      have hb : φ.bs.map (Value.int .u8) = Lib.byteCells ls := by rw [← hl]; exact bytes_of hbb
      have hstr : (⟨ls.toArray⟩ : ByteArray) = strOfNums φ.bs := by
        rw [← hl]; rfl
      simp only [wrO] at h1 h5 h6 h9
      refine (hS (g.β i) (g.ρ i).b cap g.w p ls cur (by rw [hll]; exact h1) h5 (by omega) h7 h8 (by rw [hll, ← hb]; exact h9) (fun e => hne (List.eq_nil_of_length_eq_zero (by rw [← hll, e]; rfl)))).mono ?_
      rintro e w' ⟨rfl, k1, k2⟩
      obtain ⟨kk, ss⟩ := opq_turn sm hMi (φ' := wrX) (w' := w') (rb := (g.ρ i).b) k1.size ⟨k1.os, k1.output⟩ (fun k q1 q2 q3 => k1.block k q1 q2 (by simpa using q3)) (.inl rfl) trivial
      refine ⟨_, rfl, g.β, _, ss, ?_, kk⟩
      rw [hstr]
      exact .lit _
    · cases h
  · cases h
end Go.Ab
