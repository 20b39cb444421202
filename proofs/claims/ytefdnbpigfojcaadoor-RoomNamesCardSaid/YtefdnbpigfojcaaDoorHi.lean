/- Rooms, as lists of participants: what the program's functions come to. No condition. -/
import Derived.Test.YtefdnbpigfojcaaDoorLi
import Derived.Test.YtefdnbpigfojcaaDoorM04
import Derived.Test.YtefdnbpigfojcaaDoorM08
namespace Go.Proofs
open Go.Ab Go.Lib
abbrev Pr := Antiphonref12Peer

theorem walk {S T : Type} {body : S → Option (Fl S T)} (st : Nat → S) : ∀ n : Nat, (∀ i, i < n → body (st i) = some (.go (st (i + 1)))) → loopF body (st 0) = loopF body (st n)
  | 0, _ => rfl
  | n + 1, h => by
    rw [walk st n fun i hi => h i (by omega), loopF_eq, h n (by omega)]
theorem walk_out {S T : Type} {body : S → Option (Fl S T)} (st : Nat → S) {n : Nat} {t : T} (h : ∀ i, i < n → body (st i) = some (.go (st (i + 1)))) (h2 : body (st n) = some (.out t)) : loopF body (st 0) = some t := by
  rw [walk st n h, loopF_eq, h2]
theorem nthI_at {α : Type} [Inhabited α] {l : List α} {i : Nat} (h : i < l.length) : nthI l (i : Int) = l[i] := by
  simp [nthI, List.getD, h]
theorem inB_at {α : Type} {l : List α} {i : Nat} (h : i < l.length) : InB (i : Int) (lenL l) := ⟨by omega, by unfold lenL; omega⟩
theorem next_at {i : Nat} (h : i < 1000000000) : addI .i64 (i : Int) 1 = ((i + 1 : Nat) : Int) := by rw [addI_n (by omega) (by omega)]; omega
theorem take_next {α : Type} {l : List α} {i : Nat} (h : i < l.length) : l.take (i + 1) = l.take i ++ [l[i]] := by simp

/-- The participants of a room; the names of their rooms. -/
noncomputable def inL (L : List Pr) (room : ByteArray) : List Pr := L.filter fun p => eqS (foldS p.fRoom) (foldS room)
noncomputable def roomsL (L : List Pr) : List ByteArray := L.map fun p => foldS p.fRoom
def entL (L : List Pr) : List (Int × Pr) := L.map fun p => (p.fN, p)
def idsL (L : List Pr) : List Int := L.map fun p => p.fN
theorem keys_ent (L : List Pr) : keysM (entL L) = idsL L := by simp [keysM, entL, idsL, Function.comp_def]
theorem inL_app (L : List Pr) (p : Pr) (room : ByteArray) : inL (L ++ [p]) room = if eqS (foldS p.fRoom) (foldS room) = true then inL L room ++ [p] else inL L room := by
  unfold inL
  rw [List.filter_append]
  cases h : eqS (foldS p.fRoom) (foldS room) <;> simp [h]
theorem inL_len (L : List Pr) (room : ByteArray) : (inL L room).length ≤ L.length := List.length_filter_le _ _

/-- A table: numbers rise, names are names. -/
structure Tbl (L : List Pr) (nx : Int) : Prop where
  up : (idsL L).Pairwise (· < ·)
  rng : ∀ p ∈ L, 0 ≤ p.fN ∧ p.fN < nx
  num : 0 ≤ nx ∧ nx ≤ 65536
  len : (L.length : Int) ≤ nx
  room : ∀ p ∈ L, goodB (scan p.fRoom 0) = true ∧ p.fRoom.size ≤ 1000
  name : ∀ p ∈ L, goodB (scan p.fName 0) = true ∧ p.fName.size ≤ 1000
  few : ∀ s, (inL L s).length ≤ 16
  rooms : (nubL (roomsL L)).length ≤ 8

theorem Tbl.nodup {L : List Pr} {nx : Int} (h : Tbl L nx) : (idsL L).Nodup := h.up.imp fun h => by omega
theorem Tbl.nd {L : List Pr} {nx : Int} (h : Tbl L nx) : (keysM (entL L)).Nodup := by rw [keys_ent]; exact h.nodup
theorem Tbl.get {L : List Pr} {nx : Int} (h : Tbl L nx) {p : Pr} (hp : p ∈ L) (z : Pr) : getM eqI p.fN z (entL L) = p := getM_of h.nd (List.mem_map.2 ⟨p, hp, rfl⟩)
theorem Tbl.sort {L : List Pr} {nx : Int} (h : Tbl L nx) : sortL (keysM (entL L)) = idsL L := by
  rw [keys_ent]
  exact sortL_of (.refl _) (h.up.imp fun h => by omega)
theorem Tbl.keysB {L : List Pr} {nx : Int} (h : Tbl L nx) : KeysB (keysM (entL L)) := by
  rw [keys_ent]
  have h1 := h.num
  have h2 := h.len
  refine KeysB_of (fun x hx => ?_) (by simp only [idsL, List.length_map]; omega)
  obtain ⟨p, hp, rfl⟩ := List.mem_map.1 hx
  have := h.rng p hp
  omega
theorem ids_at {L : List Pr} {i : Nat} (h : i < L.length) : nthI (idsL L) (i : Int) = (L[i]).fN := by
  rw [nthI_at (by simpa [idsL] using h)]
  simp [idsL]
theorem ids_len (L : List Pr) : lenL (idsL L) = (L.length : Int) := by simp [lenL, idsL]

/-! ### In -/
theorem in_d {L : List Pr} {nx : Int} (h : Tbl L nx) {room : ByteArray} (hr : room.size ≤ 1000000) (h0 : bytesOf room ≠ []) : gRoomTableIn (RoomTable.mk (entL L) nx) room = some (inL L room) := by
  have h1 := h.num
  have h2 := h.len
  unfold gRoomTableIn
  have w : loopF (gRoomTableIn.loop1 (RoomTable.mk (entL L) nx) room) (0, []) = some (.go (inL L room)) := by
   refine walk_out (n := L.length) (fun i => ((i : Int), inL (L.take i) room)) (fun i hi => ?_) ?_
   · have hm : L[i] ∈ L := List.getElem_mem hi
     obtain ⟨g1, g2⟩ := h.room _ hm
     have hl : ((inL (L.take i) room).length : Int) ≤ 65536 := by
       have := inL_len (L.take i) room
       simp only [List.length_take] at this
       omega
     unfold gRoomTableIn.loop1
     simp only
     rw [h.sort, ltI_t (by rw [ids_len]; omega), cond_true, need_t ⟨by omega, by rw [ids_len]; omega⟩, ids_at hi, h.get hm, same_d (by omega) hr (good_ne g1) h0, bind_so, take_next hi, inL_app, next_at (by omega)]
     cases eqS (foldS L[i].fRoom) (foldS room) with
     | true =>
       simp only [cond_true, if_true]
       rw [need_t (show AppB (lenL (inL (L.take i) room)) 1 40 from ⟨by unfold lenL; omega, by unfold lenL; omega⟩)]
       rfl
     | false => simp only [cond_false, Bool.false_eq_true, if_false]
   · unfold gRoomTableIn.loop1
     simp only
     rw [h.sort, ltI_f (by rw [ids_len]; omega), cond_false, List.take_length]
  rw [need_t h.keysB, w]; rfl

/-- What a list of the document's must be. -/
structure Doc (L : List Pr) : Prop where
  len : L.length ≤ 65536
  size : ∀ p ∈ L, p.fRoom.size ≤ 1000 ∧ p.fName.size ≤ 1000
theorem Tbl.doc {L : List Pr} {nx : Int} (h : Tbl L nx) : Doc L := ⟨by have := h.num; have := h.len; omega, fun p hp => ⟨(h.room p hp).2, (h.name p hp).2⟩⟩
theorem Doc.take {L : List Pr} (h : Doc L) (i : Nat) : Doc (L.take i) := ⟨by have := h.len; simp only [List.length_take]; omega, fun p hp => h.size p (List.mem_of_mem_take hp)⟩

theorem rin_d {L : List Pr} (h : Doc L) {nx : Int} {room : ByteArray} (hr : room.size ≤ 1000000) : gRef12In (Antiphonref12Table.mk L nx) room = some (inL L room) := by
  have h2 := h.len
  unfold gRef12In
  have w : loopF (gRef12In.loop1 (Antiphonref12Table.mk L nx) room) (0, []) = some (.go (inL L room)) := by
   refine walk_out (n := L.length) (fun i => ((i : Int), inL (L.take i) room)) (fun i hi => ?_) ?_
   · have hm : L[i] ∈ L := List.getElem_mem hi
     have g2 := (h.size _ hm).1
     have hl : ((inL (L.take i) room).length : Int) ≤ 65536 := by
       have := inL_len (L.take i) room
       simp only [List.length_take] at this
       omega
     unfold gRef12In.loop1
     simp only
     rw [ltI_t (by unfold lenL; omega), cond_true, need_t (inB_at hi), nthI_at hi, rfold_d (by omega), bind_so, rfold_d hr, bind_so, take_next hi, inL_app, next_at (by omega)]
     cases eqS (foldS L[i].fRoom) (foldS room) with
     | true =>
       simp only [cond_true, if_true]
       rw [need_t (show AppB (lenL (inL (L.take i) room)) 1 40 from ⟨by unfold lenL; omega, by unfold lenL; omega⟩)]
       rfl
     | false => simp only [cond_false, Bool.false_eq_true, if_false]
   · unfold gRef12In.loop1
     simp only
     rw [ltI_f (by unfold lenL; omega), cond_false, List.take_length]
  rw [w]; rfl

/-! ### Rooms -/
theorem folds_ent {L : List Pr} {nx : Int} (h : Tbl L nx) : foldsM (entL L) = roomsL L := by
  unfold foldsM entL roomsL
  rw [List.map_map]
  refine List.map_congr_left fun p hp => ?_
  obtain ⟨g1, g2⟩ := h.room p hp
  simp only [Function.comp]
  rw [fold_d (by omega) (good_ne g1)]; rfl
theorem rooms_d {L : List Pr} {nx : Int} (h : Tbl L nx) : gRoomTableRooms (RoomTable.mk (entL L) nx) = some (sortS (nubL (roomsL L))) := by
  have h1 : ∀ e ∈ entL L, (gLabelFold e.2.fRoom).isSome = true := fun e he => by
    obtain ⟨p, hp, rfl⟩ := List.mem_map.1 he
    obtain ⟨g1, g2⟩ := h.room p hp
    simp only
    rw [fold_d (by omega) (good_ne g1)]; rfl
  have h2 : KeysBS (roomsL L) := by
    refine ⟨fun x hx => ?_, ?_⟩
    · obtain ⟨p, hp, rfl⟩ := List.mem_map.1 hx
      have := (h.room p hp).2
      have := fold_size p.fRoom
      simp only [maxLen]; omega
    · have := h.num
      have := h.len
      simp only [roomsL, List.length_map]; omega
  unfold gRoomTableRooms gRoomTableRoomsP
  simp only
  rw [need_t h1, folds_ent h, need_t h2]
  rfl
theorem sortS_len (l : List ByteArray) : (sortS l).length = l.length := by simp [sortS]
theorem nub_snoc {l : List ByteArray} {f : List ByteArray} (hn : f.Nodup) (hm : ∀ y, y ∈ f ↔ y ∈ l) : f.length = (nubL l).length := by
  have : f.Perm (nubL l) := (List.perm_ext_iff_of_nodup hn (nodup_nubL l)).2 fun y => by rw [hm, mem_nubL]
  exact this.length_eq
theorem inL_nil {L : List Pr} {room : ByteArray} : inL L room = [] ↔ foldS room ∉ roomsL L := by
  unfold inL roomsL
  rw [List.filter_eq_nil_iff, List.mem_map]
  constructor
  · rintro h ⟨p, hp, e⟩
    exact h p hp ((eqS_iff _ _).2 e)
  · intro h p hp e
    exact h ⟨p, hp, (eqS_iff _ _).1 e⟩

/-- The folded names of rooms, each where it is first. -/
noncomputable def fst (L : List Pr) : Nat → List ByteArray
  | 0 => []
  | i + 1 => match L[i]? with
    | some p => if inL (L.take i) p.fRoom = [] then fst L i ++ [foldS p.fRoom] else fst L i
    | none => fst L i
theorem fst_ok (L : List Pr) : ∀ i, i ≤ L.length → (fst L i).Nodup ∧ ∀ y, y ∈ fst L i ↔ y ∈ roomsL (L.take i)
  | 0, _ => ⟨by simp [fst], fun y => by simp [fst, roomsL]⟩
  | i + 1, h => by
    obtain ⟨h1, h2⟩ := fst_ok L i (by omega)
    have hi : i < L.length := by omega
    have hl : L[i]? = some L[i] := List.getElem?_eq_getElem hi
    have e : roomsL (L.take (i + 1)) = roomsL (L.take i) ++ [foldS L[i].fRoom] := by unfold roomsL; rw [take_next hi, List.map_append]; rfl
    rw [fst, hl, e]
    simp only
    split
    · rename_i hn
      have hx := inL_nil.1 hn
      refine ⟨List.nodup_append.2 ⟨h1, by simp, fun a ha b hb => ?_⟩, fun y => by rw [List.mem_append, List.mem_append, h2 y]⟩
      rw [List.mem_singleton.1 hb]
      intro q
      exact hx ((h2 _).1 (q ▸ ha))
    · rename_i hn
      refine ⟨h1, fun y => ?_⟩
      rw [h2 y, List.mem_append, List.mem_singleton]
      refine ⟨.inl, fun q => q.elim id fun q => ?_⟩
      rw [q]
      exact Classical.byContradiction fun hx => hn (inL_nil.2 hx)
theorem fst_len (L : List Pr) : (fst L L.length).length = (nubL (roomsL L)).length := by
  obtain ⟨h1, h2⟩ := fst_ok L L.length (Nat.le_refl _)
  exact nub_snoc h1 fun y => by rw [h2 y, List.take_length]
theorem fst_le (L : List Pr) : ∀ i, (fst L i).length ≤ i
  | 0 => by simp [fst]
  | i + 1 => by
    have := fst_le L i
    rw [fst]
    split
    · split
      · simp only [List.length_append, List.length_cons, List.length_nil]; omega
      · omega
    · omega
theorem rrooms_d {L : List Pr} (h : Doc L) {nx : Int} : gRef12Rooms (Antiphonref12Table.mk L nx) = some (fst L L.length) := by
  have h2 := h.len
  unfold gRef12Rooms
  have w : loopF (gRef12Rooms.loop1 (Antiphonref12Table.mk L nx)) (0, []) = some (.go (fst L L.length)) := by
   refine walk_out (n := L.length) (fun i => ((i : Int), fst L i)) (fun i hi => ?_) ?_
   · have hm : L[i] ∈ L := List.getElem_mem hi
     have g2 := (h.size _ hm).1
     have hl : L[i]? = some L[i] := List.getElem?_eq_getElem hi
     have hf := fst_le L i
     have hc : cutL L 0 (i : Int) = L.take i := by simp [cutL]
     unfold gRef12Rooms.loop1
     simp only
     rw [ltI_t (by unfold lenL; omega), cond_true, need_t (inB_at hi), need_t (show CutB 0 (i : Int) (lenL L) from ⟨by omega, by omega, by unfold lenL; omega⟩), nthI_at hi, hc, rin_d (h.take i) (by omega), bind_so, next_at (by omega)]
     rw [fst, hl]
     simp only
     by_cases hn : inL (L.take i) L[i].fRoom = []
     · rw [if_pos hn, hn, eqI_t (by rfl), cond_true, rfold_d (by omega), bind_so, need_t (show AppB (lenL (fst L i)) 1 16 from ⟨by unfold lenL; omega, by unfold lenL; omega⟩)]
       rfl
     · have : (inL (L.take i) L[i].fRoom).length ≠ 0 := fun q => hn (List.eq_nil_of_length_eq_zero q)
       rw [if_neg hn, eqI_f (by unfold lenL; omega), cond_false]
   · unfold gRef12Rooms.loop1
     simp only
     rw [ltI_f (by unfold lenL; omega), cond_false]
  rw [w]; rfl
end Go.Proofs
