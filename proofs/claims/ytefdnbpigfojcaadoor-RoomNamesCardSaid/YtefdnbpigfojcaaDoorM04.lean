/- That these functions compute what their plain functions do. No condition. -/
import Derived.Test.YtefdnbpigfojcaaDoorM05
import Derived.Test.YtefdnbpigfojcaaDoorTy
import Derived.Test.YtefdnbpigfojcaaDoorHq
import Derived.Test.YtefdnbpigfojcaaDoorM06
import Derived.Test.YtefdnbpigfojcaaDoorKl
section
namespace Go.Proofs
open Go.Ab
@[simp] def gRoomTableRooms.out (_x0 : RoomTable) (r : List ByteArray) : Out := { av := .sl (r.map eTxt) .no, M := none }
def gRoomTableRooms.fin (x0 : RoomTable) (r : List ByteArray) (σ : St) : Prop := finK (gRoomTableRooms.out x0 r) [.blk [.mp 1, .lit (.int .i64 x0.fNext)], .mapo (encM (kI .i64) (vA Antiphonref12Peer.enc) x0.fPeers)] σ.M (resA Tryd.ty σ.A σ.M Tryd.f13.results.toList)
set_option maxHeartbeats 4000000 in
set_option maxRecDepth 100000 in
theorem gRoomTableRooms.can (x0 : RoomTable) (r : List ByteArray) (hr : gRoomTableRooms x0 = some r) : CallOk Tryd.prog 13 [.ptr 0 0] [.blk [.mp 1, .lit (.int .i64 x0.fNext)], .mapo (encM (kI .i64) (vA Antiphonref12Peer.enc) x0.fPeers)] (gRoomTableRooms.out x0 r) := by
  unfold gRoomTableRooms at hr
  obtain ⟨r1, h1, hr⟩ := bind_some' (show (gRoomTableRoomsP x0).bind (fun r1 => some r1) = some r from hr)
  obtain rfl := some_inj hr
  exact gRoomTableRoomsP.can x0 _ h1

@[simp] noncomputable def gRoomTableRooms.S : Sp
  | [.ptr i0 0], M => match M[i0]? with
    | some (.blk c0) => (match nthE c0 0 with
    | some (.mp i1) => (match M[i1]? with
    | some (.mapo c1) => some { av := .sl (((gRoomTableRooms (RoomTable.dec c0 (decM dkI (dvA Antiphonref12Peer.dec) c1))).getD dflt).map eTxt) .no, M := none, obl := c0 = RoomTable.enc (RoomTable.dec c0 (decM dkI (dvA Antiphonref12Peer.dec) c1)) i1 ∧ c1 = encM (kI .i64) (vA Antiphonref12Peer.enc) ((RoomTable.dec c0 (decM dkI (dvA Antiphonref12Peer.dec) c1)).fPeers) ∧ (gRoomTableRooms (RoomTable.dec c0 (decM dkI (dvA Antiphonref12Peer.dec) c1))).isSome = true ∧ i0 ≠ i1 }
    | _ => none)
    | _ => none)
    | _ => none
  | _, _ => none

set_option maxHeartbeats 1000000 in
theorem gRoomTableRooms.ok : SpecOk Tryd.prog 13 gRoomTableRooms.S := by
  intro l M out h
  unfold gRoomTableRooms.S at h
  split at h
  · rename_i i0
    split at h
    case h_2 => cases h
    rename_i c0 hM0
    split at h
    case h_2 => cases h
    rename_i i1 he1
    split at h
    case h_2 => cases h
    rename_i c1 hM1
    cases h
    refine callOk_of fun ho => ?_
    obtain ⟨oc0, oc1, hs, hne0⟩ := ho
    generalize (RoomTable.dec c0 (decM dkI (dvA Antiphonref12Peer.dec) c1)) = y0 at *
    subst oc0
    subst oc1
    obtain ⟨r, hr⟩ := Option.isSome_iff_exists.1 hs
    simp only [hr, Option.getD_some]
    have q := call_frame (M := M) [i0, i1] (gRoomTableRooms.can y0 r hr) (by simp [hne0]) rfl (by intro k i hk; (cases k with | zero => (simp at hk; subst hk; simp [hM0, into]) | succ k => ((cases k with | zero => (simp at hk; subst hk; simp [hM1]) | succ k => (simp at hk)))))
    exact callOk_conv q trivial (by simp [into]) (by simp [frameOut, gRoomTableRooms.out, into]) (by simp only [frameOut, gRoomTableRooms.out, Option.getD_some, Option.getD_none]; simp [into, hM0, hM1, set_same])
  · cases h
end Go.Proofs
end
section
namespace Go.Proofs
open Go.Ab
variable {V : Type}

theorem hasM_iff {k : Int} : ∀ {m : List (Int × V)}, hasM eqI k m = true ↔ k ∈ keysM m
  | [] => by simp [hasM, keysM]
  | e :: r => by
    have ih := hasM_iff (k := k) (m := r)
    simp only [hasM, keysM, List.map_cons, List.mem_cons]
    by_cases h : k = e.1
    · rw [eqI_t h]; simp [pickB, h]
    · rw [eqI_f h]; simp only [pickB, cond_false, h, false_or]; exact ih
theorem hasM_t {k : Int} {m : List (Int × V)} (h : k ∈ keysM m) : hasM eqI k m = true := hasM_iff.2 h
theorem hasM_f {k : Int} {m : List (Int × V)} (h : k ∉ keysM m) : hasM eqI k m = false := by
  cases hh : hasM eqI k m with
  | false => rfl
  | true => exact absurd (hasM_iff.1 hh) h

theorem getM_of {k : Int} {v z : V} : ∀ {m : List (Int × V)}, (keysM m).Nodup → (k, v) ∈ m → getM eqI k z m = v
  | e :: r, hn, h => by
    simp only [keysM, List.map_cons, List.nodup_cons] at hn
    simp only [getM]
    cases h with
    | head => rw [eqI_t rfl]; rfl
    | tail _ h =>
      have hne : k ≠ e.1 := fun q => hn.1 (List.mem_map.2 ⟨(k, v), h, q⟩)
      rw [eqI_f hne]
      simp only [Bool.false_eq_true, if_false]
      exact getM_of hn.2 h
theorem getM_no {k : Int} {z : V} : ∀ {m : List (Int × V)}, k ∉ keysM m → getM eqI k z m = z
  | [], _ => rfl
  | e :: r, h => by
    simp only [keysM, List.map_cons, List.mem_cons, not_or] at h
    simp only [getM, eqI_f h.1, Bool.false_eq_true, if_false]
    exact getM_no h.2

theorem setM_no {k : Int} {v : V} : ∀ {m : List (Int × V)}, k ∉ keysM m → setM eqI k v m = m ++ [(k, v)]
  | [], _ => rfl
  | e :: r, h => by
    simp only [keysM, List.map_cons, List.mem_cons, not_or] at h
    simp only [setM, eqI_f h.1, Bool.false_eq_true, if_false, List.cons_append]
    rw [setM_no h.2]

theorem delM_no {k : Int} : ∀ {m : List (Int × V)}, k ∉ keysM m → delM eqI k m = m
  | [], _ => rfl
  | e :: r, h => by
    simp only [keysM, List.map_cons, List.mem_cons, not_or] at h
    simp only [delM, eqI_f h.1, Bool.false_eq_true, if_false]
    rw [delM_no h.2]
theorem delM_perm {k : Int} {v : V} : ∀ {m : List (Int × V)}, (keysM m).Nodup → (k, v) ∈ m → m.Perm ((k, v) :: delM eqI k m)
  | e :: r, hn, h => by
    simp only [keysM, List.map_cons, List.nodup_cons] at hn
    simp only [delM]
    cases h with
    | head => rw [eqI_t rfl]; exact List.Perm.refl _
    | tail _ h =>
      have hne : k ≠ e.1 := fun q => hn.1 (List.mem_map.2 ⟨(k, v), h, q⟩)
      rw [eqI_f hne]
      simp only [Bool.false_eq_true, if_false]
      exact ((delM_perm hn.2 h).cons e).trans (List.Perm.swap _ _ _)
theorem delM_of {k : Int} {v : V} {m r : List (Int × V)} (hn : (keysM m).Nodup) (hp : m.Perm ((k, v) :: r)) : (delM eqI k m).Perm r :=
  ((delM_perm hn (hp.mem_iff.2 (.head _))).symm.trans hp).cons_inv
theorem keysM_perm {m m' : List (Int × V)} (h : m.Perm m') : (keysM m).Perm (keysM m') := h.map _
theorem lenL_perm {α : Type} {l l' : List α} (h : l.Perm l') : lenL l = lenL l' := by simp [lenL, h.length_eq]
theorem sortL_of {l l' : List Int} (h : l.Perm l') (hs : l'.Pairwise (· ≤ ·)) : sortL l = l' := by
  unfold sortL
  refine List.Perm.eq_of_pairwise (le := fun a b => a ≤ b) (fun a b _ _ h1 h2 => Int.le_antisymm h1 h2) ?_ hs ((List.mergeSort_perm l _).trans h)
  have := List.pairwise_mergeSort (le := fun x y : Int => decide (x ≤ y)) (fun a b c h1 h2 => by simp only [decide_eq_true_eq] at *; omega) (fun a b => by simp only [Bool.or_eq_true, decide_eq_true_eq]; omega) l
  exact this.imp fun h => by simpa using h
theorem KeysB_of {l : List Int} (h : ∀ x ∈ l, -9223372036854775808 ≤ x ∧ x ≤ 9223372036854775807) (hl : l.length ≤ 1000000000000) : KeysB l :=
  ⟨fun x hx => by
    obtain ⟨h1, h2⟩ := h x hx
    simp only [Lit.wf, Bool.and_eq_true, decide_eq_true_eq]
    exact ⟨h1, h2⟩, by omega⟩
end Go.Proofs
end
