/- Rooms: all rooms are as the document has them; names. No condition. -/
import Derived.Test.YtefdnbpigfojcaaDoorHj
import Derived.Test.YtefdnbpigfojcaaDoorHeD
import Derived.Test.YtefdnbpigfojcaaDoorM06
import Derived.Sort.Walk0
namespace Go.Proofs
open Go.Ab Go.Lib

theorem lit_0 (l : List UInt8) : restS ⟨l.toArray⟩ 0 = l := lit_b l
theorem scan_lit (l : List UInt8) : scan ⟨l.toArray⟩ 0 = runesL l := by unfold scan; rw [lit_0]
/-- A text's bytes, folded. -/
noncomputable def foldB (l : List UInt8) : List UInt8 := ((runesL l).map lowerR).flatMap encodeRune
theorem foldB_d (s : ByteArray) : bytesOf (foldS s) = foldB (bytesOf s) := by
  rw [foldS_b]; rfl
theorem eqF (a b : ByteArray) : eqS (foldS a) (foldS b) = decide (foldB (bytesOf a) = foldB (bytesOf b)) := by rw [eqS_b, foldB_d, foldB_d]
theorem scan_b (s : ByteArray) : scan s 0 = runesL (bytesOf s) := rfl

/-! ### Awake -/
abbrev sHall : ByteArray := ⟨#[72, 97, 108, 108]⟩
abbrev shall : ByteArray := ⟨#[104, 97, 108, 108]⟩
abbrev sAnn : ByteArray := ⟨#[65, 110, 110]⟩
abbrev sann : ByteArray := ⟨#[97, 110, 110]⟩
abbrev sBob : ByteArray := ⟨#[66, 111, 98]⟩
theorem g_Hall : goodB (scan sHall 0) = true := by rw [scan_b]; decide +kernel
theorem g_hall : goodB (scan shall 0) = true := by rw [scan_b]; decide +kernel
theorem g_Ann : goodB (scan sAnn 0) = true := by rw [scan_b]; decide +kernel
theorem g_ann : goodB (scan sann 0) = true := by rw [scan_b]; decide +kernel
theorem g_Bob : goodB (scan sBob 0) = true := by rw [scan_b]; decide +kernel
theorem f_hall : eqS (foldS sHall) (foldS shall) = true := by rw [eqF]; decide +kernel
theorem f_ann : eqS (foldS sAnn) (foldS sann) = true := by rw [eqF]; decide +kernel
theorem f_bob : eqS (foldS sAnn) (foldS sBob) = false := by rw [eqF]; decide +kernel

theorem join_first {room name : ByteArray} (hr : goodB (scan room 0) = true) (hn : goodB (scan name 0) = true) : joinL [] 0 room name = ([⟨0, name, room⟩], 1, 0, 0) := by
  unfold joinL
  rw [if_pos ⟨hr, hn⟩]
  have h1 : hasN (inL [] room) name = false := rfl
  have h2 : fullL [] 0 room = false := by simp [fullL, inL, roomsL, nubL]
  rw [h1, h2]
  simp
theorem inL_one (p : Pr) (room : ByteArray) : inL [p] room = if eqS (foldS p.fRoom) (foldS room) = true then [p] else [] := by
  unfold inL
  cases h : eqS (foldS p.fRoom) (foldS room) <;> simp [h]
theorem join_there {p : Pr} {nx : Int} {room name : ByteArray} (hr : goodB (scan room 0) = true) (hn : goodB (scan name 0) = true) (h1 : eqS (foldS p.fRoom) (foldS room) = true) (h2 : eqS (foldS p.fName) (foldS name) = true) :
    joinL [p] nx room name = ([p], nx, 0, 10) := by
  unfold joinL
  rw [if_pos ⟨hr, hn⟩, inL_one, if_pos h1]
  have : hasN [p] name = true := by simp [hasN, h2]
  rw [this]
  simp
theorem join_next {p : Pr} {nx : Int} (hx : nx ≤ 1000) {room name : ByteArray} (hr : goodB (scan room 0) = true) (hn : goodB (scan name 0) = true) (h1 : eqS (foldS p.fRoom) (foldS room) = true) (h2 : eqS (foldS p.fName) (foldS name) = false) :
    joinL [p] nx room name = ([p, ⟨nx, name, room⟩], nx + 1, nx, 0) := by
  have e : inL [p] room = [p] := by rw [inL_one, if_pos h1]
  unfold joinL
  rw [if_pos ⟨hr, hn⟩, e]
  have h3 : hasN [p] name = false := by simp [hasN, h2]
  have h4 : fullL [p] nx room = false := by
    unfold fullL
    rw [e]
    simp
    omega
  rw [h3, h4]
  simp

theorem awake_d : gLaw12Awake = some true := by
  have t1 : Tbl [⟨0, sAnn, sHall⟩] 1 := by
    have := Tbl.new.join (room := sHall) (name := sAnn) (by decide) (by decide)
    rw [join_first g_Hall g_Ann] at this
    exact this
  have t2 : Tbl [⟨0, sAnn, sHall⟩, ⟨1, sBob, shall⟩] 2 := by
    have := t1.join (room := shall) (name := sBob) (by decide) (by decide)
    rw [join_next (by decide) g_hall g_Bob f_hall f_bob] at this
    exact this
  have j1 := join_d Tbl.new (room := sHall) (name := sAnn) (by decide) (by decide)
  rw [join_first g_Hall g_Ann] at j1
  have j2 := join_d t1 (room := shall) (name := sann) (by decide) (by decide)
  rw [join_there g_hall g_ann f_hall f_ann] at j2
  have j3 := join_d t1 (room := shall) (name := sBob) (by decide) (by decide)
  rw [join_next (by decide) g_hall g_Bob f_hall f_bob] at j3
  have tg : togL [⟨0, sAnn, sHall⟩, ⟨1, sBob, shall⟩] 0 1 = true := by
    have f0 : findL [⟨0, sAnn, sHall⟩, ⟨1, sBob, shall⟩] 0 = some ⟨0, sAnn, sHall⟩ := rfl
    have f1 : findL [⟨0, sAnn, sHall⟩, ⟨1, sBob, shall⟩] 1 = some ⟨1, sBob, shall⟩ := rfl
    unfold togL
    rw [f0, f1]
    simp only [Option.isSome_some, Option.getD_some, f_hall]
    decide
  have e0 : (RoomTable.mk [] 0) = RoomTable.mk (entL []) 0 := rfl
  unfold gLaw12Awake gRoomNew
  rw [bind_so, e0, j1, bind_so]
  simp only
  rw [j2, bind_so]
  simp only
  rw [j3, bind_so]
  simp only
  have td := together_d t2 0 1
  rw [tg] at td
  have e2 : (1 : Int) + 1 = 2 := rfl
  rw [e2, td, len_room]
  simp only [getD_so]
  rw [need_s, need_s]
  rfl

/-! ### Is -/
theorem ltS_b (a b : ByteArray) : ltS a b = decide (bytesOf a < bytesOf b) := by
  unfold ltS
  rw [bytesLess_eq]
  have e : ∀ x : ByteArray, x.toList = bytesOf x := fun x => Go.ByteArray.toList_eq x
  rw [e, e]
theorem kb_b (x : ByteArray) : kbytesOf x = bytesOf x := rfl
theorem sortS_mem {l : List ByteArray} {x : ByteArray} : x ∈ sortS l ↔ x ∈ l := by
  unfold sortS
  rw [List.mem_map]
  constructor
  · rintro ⟨y, hy, rfl⟩
    obtain ⟨z, hz, rfl⟩ := List.mem_map.1 ((List.mergeSort_perm _ _).mem_iff.1 hy)
    rw [kofB_kbOf]; exact hz
  · intro h
    exact ⟨kbytesOf x, (List.mergeSort_perm _ _).mem_iff.2 (List.mem_map.2 ⟨x, h, rfl⟩), kofB_kbOf x⟩
theorem sortS_up {l : List ByteArray} (h : l.Nodup) : (sortS l).Pairwise fun a b => ltS a b = true := by
  have hn : ((l.map kbytesOf).mergeSort fun x y => decide (x ≤ y)).Nodup := by
    refine (List.mergeSort_perm _ _).nodup_iff.2 ?_
    unfold List.Nodup at h ⊢
    rw [List.pairwise_map]
    refine h.imp fun hab q => hab ?_
    have := congrArg kofBytes q
    rw [kofB_kbOf, kofB_kbOf] at this; exact this
  have hs := List.pairwise_mergeSort (le := fun x y : List UInt8 => decide (x ≤ y)) (fun a b c h1 h2 => by simp only [decide_eq_true_eq] at *; exact List.le_trans h1 h2) (fun a b => by simp only [Bool.or_eq_true, decide_eq_true_eq]; exact List.le_total a b) (l.map kbytesOf)
  unfold sortS
  rw [List.pairwise_map]
  refine (hs.and hn).imp fun {a b} hab => ?_
  obtain ⟨h1, h2⟩ := hab
  rw [ltS_b, decide_eq_true_eq, ← kb_b, ← kb_b, kbOf_kofB, kbOf_kofB]
  have h1 := of_decide_eq_true h1
  rcases Classical.em (a < b) with q | q
  · exact q
  · exact absurd (List.le_antisymm h1 (by exact q)) h2

theorem is_d {L : List Pr} {nx : Int} (h : Tbl L nx) (n : Int) : gLaw12Is (RoomTable.mk (entL L) nx) (Antiphonref12Table.mk L nx) n = some 0 := by
  have hd := h.doc
  have h8 := h.rooms
  have hup := sortS_up (nodup_nubL (roomsL L))
  have hlen : (sortS (nubL (roomsL L))).length = (nubL (roomsL L)).length := sortS_len _
  generalize hS : sortS (nubL (roomsL L)) = S at *
  have hSm : ∀ s ∈ S, ∃ p ∈ L, s = foldS p.fRoom := fun s hs => by
    rw [← hS] at hs
    obtain ⟨p, hp, e⟩ := List.mem_map.1 (mem_nubL.1 (sortS_mem.1 hs))
    exact ⟨p, hp, e.symm⟩
  have w : loopF (gLaw12Is.loop1 (RoomTable.mk (entL L) nx) (Antiphonref12Table.mk L nx) S) 0 = some (.go ()) := by
    refine walk_out (n := S.length) (fun i => (i : Int)) (fun i hi => ?_) ?_
    · obtain ⟨p, hp, e⟩ := hSm S[i] (List.getElem_mem hi)
      obtain ⟨g1, g2⟩ := h.room p hp
      have hz := fold_size p.fRoom
      have hsz : (S[i]).size ≤ 1000000 := by rw [e]; omega
      have hne : bytesOf S[i] ≠ [] := by rw [e]; exact good_ne (good_fold g1)
      have hin : p ∈ inL L S[i] := List.mem_filter.2 ⟨hp, by rw [e, fold_idem]; exact eqS_self _⟩
      have hpos : 0 < (inL L S[i]).length := List.length_pos_iff.2 (List.ne_nil_of_mem hin)
      have h16 := h.few S[i]
      unfold gLaw12Is.loop1
      rw [ltI_t (by unfold lenL; omega), cond_true, need_t (inB_at hi), nthI_at hi, in_d h hsz hne, bind_so, rin_d hd hsz, bind_so]
      have hprev : need (Under (ltI 0 (i : Int)) true (InB (subI .i64 (i : Int) 1) (lenL S))) = (id : Option (Fl Int (Fl Unit Int)) → _) := by
        funext x
        refine need_t fun hq => ?_
        have : 0 < i := by
          rw [ltI_d] at hq
          have := of_decide_eq_true hq
          omega
        rw [subI_n (by omega) (by omega)]
        exact ⟨by omega, by unfold lenL; omega⟩
      rw [hprev]
      simp only [id]
      have hc : pickB (pickB (pickB (pickB (ltI 0 (i : Int)) (notB (ltS (nthI S (subI .i64 (i : Int) 1)) S[i])) false) true (neI (lenL (inL L S[i])) (lenL (inL L S[i])))) true (eqI (lenL (inL L S[i])) 0)) true (ltI 16 (lenL (inL L S[i]))) = false := by
        rw [neI_f rfl, eqI_f (by unfold lenL; omega), ltI_f (a := 16) (by unfold lenL; omega)]
        have : pickB (ltI 0 (i : Int)) (notB (ltS (nthI S (subI .i64 (i : Int) 1)) S[i])) false = false := by
          by_cases h0 : 0 < i
          · have e1 : subI .i64 (i : Int) 1 = ((i - 1 : Nat) : Int) := by rw [subI_n (by omega) (by omega)]; omega
            have hi1 : i - 1 < S.length := by omega
            rw [e1, nthI_at hi1]
            have := List.pairwise_iff_getElem.1 hup (i - 1) i hi1 hi (by omega)
            rw [this, ltI_t (by omega)]
            rfl
          · rw [ltI_f (by omega)]; rfl
        rw [this]
        rfl
      rw [hc, cond_false]
      have w2 : loopF (gLaw12Is.loop2 (inL L S[i]) (inL L S[i])) 0 = some (.go ()) := by
        refine walk_out (n := (inL L S[i]).length) (fun j => (j : Int)) (fun j hj => ?_) ?_
        · unfold gLaw12Is.loop2
          rw [ltI_t (by unfold lenL; omega), cond_true, need_t (inB_at hj), need_t (inB_at hj), nthI_at hj, eqI_t rfl, eqS_self, eqS_self, next_at (by omega)]
          rfl
        · unfold gLaw12Is.loop2
          rw [ltI_f (by unfold lenL; omega), cond_false]
      rw [w2, next_at (by omega)]
      rfl
    · unfold gLaw12Is.loop1
      rw [ltI_f (by unfold lenL; omega), cond_false]
  unfold gLaw12Is
  rw [peer_d, rfind_d hd.len, rooms_d h, hS, rrooms_d hd, len_room]
  simp only [bind_so]
  have hc : pickB (pickB (pickB (pickB (neI (L.length : Int) (lenL L)) true (notB (pickB (eqI ((findL L n).getD noPr).fN ((findL L n).getD noPr).fN) (pickB (eqS ((findL L n).getD noPr).fName ((findL L n).getD noPr).fName) (eqS ((findL L n).getD noPr).fRoom ((findL L n).getD noPr).fRoom) false) false))) true (neB (findL L n).isSome (findL L n).isSome)) true (neI (lenL S) (lenL (fst L L.length)))) true (ltI 8 (lenL S)) = false := by
    have e : lenL (fst L L.length) = lenL S := by unfold lenL; rw [fst_len, hlen]
    rw [neI_f (show (L.length : Int) = lenL L from rfl), eqI_t rfl, eqS_self, eqS_self, e, neI_f rfl, ltI_f (by unfold lenL; omega), neB_d]
    simp [pickB]
  rw [hc, cond_false, w]
  rfl

/-! ### Any calls -/
theorem roomPlays_plain (x0 : List Antiphonlaw12Act) : gLaw12RoomPlays x0 = some true := by
  obtain ⟨t, ht, v, rfl⟩ := loop_ends (body := gLaw12RoomPlays.loop1 x0)
    (fun p => ∃ (i : Nat) (L : List Pr) (nx : Int), p = ((i : Int), entL L, nx, Antiphonref12Table.mk L nx) ∧ Tbl L nx ∧ i ≤ 120)
    (fun t => ∃ v, t = .go v) (fun p => (120 - p.1).toNat) (by
      rintro p ⟨i, L, nx, rfl, hT, hi⟩
      unfold gLaw12RoomPlays.loop1
      simp only
      by_cases hc : i < x0.length ∧ i < 120
      · have e : pickB (ltI (i : Int) (lenL x0)) (ltI (i : Int) 120) false = true := by
          rw [pickB_and, ltI_t (by unfold lenL; omega), ltI_t (by omega)]; rfl
        rw [e, cond_true, need_t (inB_at hc.1), nthI_at hc.1, next_at (by omega)]
        generalize x0[i] = a
        -- behind the call
        have rest : ∀ (L' : List Pr) (nx' : Int) (n : Int), Tbl L' nx' →
            ((gLaw12Is (RoomTable.mk (entL L') nx') (Antiphonref12Table.mk L' nx') n).bind fun r9 =>
              need (Under (neI r9 0) false (NonZ 2)) <|
              need (Under (neI r9 0) false ((gRoomTableTogether (RoomTable.mk (entL L') nx') n (quoI .i64 (i : Int) 2)).isSome = true)) <|
              need (Under (neI r9 0) false (NonZ 2)) <|
              need (Under (neI r9 0) false ((gRef12Together (Antiphonref12Table.mk L' nx') n (quoI .i64 (i : Int) 2)).isSome = true)) <|
              bif (pickB (neI r9 0) true (neB ((gRoomTableTogether (RoomTable.mk (entL L') nx') n (quoI .i64 (i : Int) 2)).getD dflt) ((gRef12Together (Antiphonref12Table.mk L' nx') n (quoI .i64 (i : Int) 2)).getD dflt))) then (
                some (.out (.out (.out false)))
              ) else (
                some (.go (entL L', nx', Antiphonref12Table.mk L' nx'))
              ) : Option (Fl ((List (Int × Pr)) × Int × Antiphonref12Table) (Fl (Int × (List (Int × Pr)) × Int × Antiphonref12Table) (Fl ((List (Int × Pr)) × Int × Antiphonref12Table) Bool)))) = some (.go (entL L', nx', Antiphonref12Table.mk L' nx')) := by
          intro L' nx' n hT'
          rw [is_d hT', bind_so, together_d hT', rtogether_d hT'.doc, need_u (fun _ => (show NonZ 2 from by unfold NonZ; decide)), need_s, need_u (fun _ => (show NonZ 2 from by unfold NonZ; decide)), need_s]
          simp only [getD_so, neI_f (rfl : (0 : Int) = 0), pickB_f]
          have : ∀ b : Bool, neB b b = false := fun b => by cases b <;> rfl
          rw [this]; rfl
        have fin : ∀ (L' : List Pr) (nx' : Int), Tbl L' nx' → RoundP (fun p => ∃ (i : Nat) (L : List Pr) (nx : Int), p = ((i : Int), entL L, nx, Antiphonref12Table.mk L nx) ∧ Tbl L nx ∧ i ≤ 120)
            (fun t => ∃ v, t = .go v) (fun p => (120 - p.1).toNat) ((i : Int), entL L, nx, Antiphonref12Table.mk L nx)
            (some (.go (((i + 1 : Nat) : Int), entL L', nx', Antiphonref12Table.mk L' nx')) : Option (Fl (Int × (List (Int × Pr)) × Int × Antiphonref12Table) (Fl ((List (Int × Pr)) × Int × Antiphonref12Table) Bool))) :=
          fun L' nx' hT' => ⟨⟨i + 1, L', nx', rfl, hT', by omega⟩, by simp only; omega⟩
        by_cases k1 : a.fKind = 1
        · obtain ⟨r, c1, c2⟩ := cut_d a.fRoom (n := 70) (by omega) (by omega)
          obtain ⟨m, c3, c4⟩ := cut_d a.fName (n := 70) (by omega) (by omega)
          rw [eqI_t k1, cond_true, c1, bind_so, c3, bind_so, join_d hT c2 c4, bind_so, rjoin_d hT.doc hT.num c2 c4, bind_so]
          simp only
          rw [neI_f rfl, neI_f rfl]
          simp only [pickB_f, cond_false, bind_so, flC_go]
          rw [rest _ _ _ (hT.join c2 c4)]
          simp only [bind_so, flC_go]
          exact fin _ _ (hT.join c2 c4)
        · rw [eqI_f k1, cond_false]
          by_cases k2 : a.fKind = 2
          · rw [eqI_t k2, cond_true, leave_d hT, bind_so, rleave_d hT.doc, bind_so]
            simp only
            rw [neI_f rfl]
            simp only [cond_false, bind_so, flC_go]
            rw [rest _ _ _ (hT.leave _)]
            simp only [bind_so, flC_go]
            exact fin _ _ (hT.leave _)
          · rw [eqI_f k2, cond_false]
            simp only [bind_so, flC_go]
            rw [rest _ _ _ hT]
            simp only [bind_so, flC_go]
            exact fin _ _ hT
      · have e : pickB (ltI (i : Int) (lenL x0)) (ltI (i : Int) 120) false = false := by
          rw [pickB_and, Bool.and_eq_false_iff]
          by_cases q : i < x0.length
          · exact .inr (ltI_f (by omega))
          · exact .inl (ltI_f (by unfold lenL; omega))
        rw [e, cond_false]
        exact ⟨_, rfl⟩)
    (0, [], 0, Antiphonref12Table.mk [] 0) ⟨0, [], 0, rfl, Tbl.new, by omega⟩
  unfold gLaw12RoomPlays gRoomNew
  rw [awake_d]
  simp only [bind_so, notB_f', cond_false]
  rw [ht]
  rfl

/-! ### No two of one name -/
theorem roomNames_plain (x0 x1 x2 : ByteArray) : gLaw12RoomNames x0 x1 x2 = some true := by
  obtain ⟨r, c1, c2⟩ := cut_d x0 (n := 60) (by omega) (by omega)
  obtain ⟨a, c3, c4⟩ := cut_d x1 (n := 60) (by omega) (by omega)
  obtain ⟨b, c5, c6⟩ := cut_d x2 (n := 60) (by omega) (by omega)
  have hcut : r.size ≤ 60 := by
    unfold gLaw01Cut at c1
    by_cases h : 60 < lenS x0
    · rw [ltI_t h, cond_true, need_t ⟨Int.le_refl _, by omega, by omega⟩] at c1
      cases c1
      rw [← bytesOf_len, cutS_b]
      simp only [List.length_take]
      omega
    · rw [ltI_f h, cond_false] at c1
      cases c1
      unfold lenS at h
      omega
  unfold gLaw12RoomNames
  rw [c1, bind_so, c3, bind_so, c5, bind_so, awake_d, bind_so, good_d c2, good_d c4, good_d c6]
  simp only [getD_so, need_s]
  cases gr : goodB (scan r 0) with
  | false => rfl
  | true =>
  cases ga : goodB (scan a 0) with
  | false => rfl
  | true =>
  cases gb : goodB (scan b 0) with
  | false => rfl
  | true =>
    simp only [notB_f', pickB_f, cond_false]
    have e0 : (RoomTable.mk [] 0) = RoomTable.mk (entL []) 0 := rfl
    have hz := fold_size r
    have hz' : (foldS r).size ≤ 1000 := by omega
    have gf := good_fold gr
    have t1 : Tbl [⟨0, a, r⟩] 1 := by
      have := Tbl.new.join (room := r) (name := a) c2 c4
      rw [join_first gr ga] at this
      exact this
    have j1 := join_d Tbl.new (room := r) (name := a) c2 c4
    rw [join_first gr ga] at j1
    have hroom : eqS (foldS (⟨0, a, r⟩ : Pr).fRoom) (foldS (foldS r)) = true := by
      simp only
      rw [fold_idem]; exact eqS_self _
    have rf : gRef06Fold (foldS r) = some (foldS r) := by rw [rfold_d (by omega), fold_idem]
    have hne : neS (foldS r) (foldS r) = false := by rw [neS_b, eqS_self]; rfl
    unfold gRoomNew
    rw [bind_so, e0, j1, bind_so]
    simp only
    rw [rfold_d (s := r) (by omega), bind_so]
    cases hs : eqS (foldS a) (foldS b) with
    | true =>
      have j2 := join_d t1 (room := foldS r) (name := b) hz' c6
      rw [join_there gf gb hroom hs] at j2
      rw [j2, bind_so, rfold_d (s := a) (by omega), bind_so, rfold_d (s := b) (by omega), bind_so, rf, bind_so, hne, cond_false]
      simp only
      rw [rooms_d t1, hs]
      simp only [getD_so, need_s]
      have : lenL (sortS (nubL (roomsL [⟨0, a, r⟩]))) = 1 := by unfold lenL; rw [sortS_len]; simp [roomsL, nubL]
      rw [this]; rfl
    | false =>
      have j2 := join_d t1 (room := foldS r) (name := b) hz' c6
      have t2 := t1.join (room := foldS r) (name := b) hz' c6
      rw [join_next (by decide) gf gb hroom hs] at j2 t2
      rw [j2, bind_so, rfold_d (s := a) (by omega), bind_so, rfold_d (s := b) (by omega), bind_so, rf, bind_so, hne, cond_false]
      simp only at t2 ⊢
      rw [rooms_d t2, hs]
      simp only [getD_so, need_s]
      have : lenL (sortS (nubL (roomsL [⟨0, a, r⟩, ⟨1, b, foldS r⟩]))) = 1 := by unfold lenL; rw [sortS_len]; simp [roomsL, nubL, fold_idem]
      rw [this]; rfl
end Go.Proofs
