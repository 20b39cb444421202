/- Rooms: who is together; no number is reused. No condition. -/
import Derived.Test.YtefdnbpigfojcaaDoorHk
import Derived.Test.YtefdnbpigfojcaaDoorM10
namespace Go.Proofs
open Go.Ab Go.Lib

theorem cvt32 {n : Int} (h0 : 0 ≤ n) (h1 : n ≤ 1000) : cvtI .i32 n = n := by
  unfold cvtI
  rw [IntKind.wrap_i32]; omega
abbrev rA : ByteArray := ⟨#[97]⟩
abbrev rB : ByteArray := ⟨#[66]⟩
abbrev rb : ByteArray := ⟨#[98]⟩
abbrev rC : ByteArray := ⟨#[99]⟩
def rmv : Nat → ByteArray
  | 0 => rA
  | 1 => rB
  | 2 => rb
  | _ => rC
def code : Nat → Int
  | 0 => 0
  | 1 => 1
  | 2 => 1
  | _ => 2
theorem rmv_good : ∀ k, k < 4 → goodB (scan (rmv k) 0) = true := by
  intro k hk
  rw [scan_b]
  match k, hk with
  | 0, _ => decide +kernel
  | 1, _ => decide +kernel
  | 2, _ => decide +kernel
  | 3, _ => decide +kernel
theorem rmv_size (k : Nat) : (rmv k).size ≤ 1000 := by
  unfold rmv
  split <;> decide
theorem rmv_fold : ∀ k, k < 4 → ∀ k', k' < 4 → eqS (foldS (rmv k)) (foldS (rmv k')) = decide (code k = code k') := by
  intro k hk k' hk'
  rw [eqF]
  have h0 : foldB (bytesOf rA) = [97] := by decide +kernel
  have h1 : foldB (bytesOf rB) = [98] := by decide +kernel
  have h2 : foldB (bytesOf rb) = [98] := by decide +kernel
  have h3 : foldB (bytesOf rC) = [99] := by decide +kernel
  match k, hk with
  | 0, _ => match k', hk' with
    | 0, _ => simp only [rmv, code, h0] <;> decide
    | 1, _ => simp only [rmv, code, h0, h1] <;> decide
    | 2, _ => simp only [rmv, code, h0, h2] <;> decide
    | 3, _ => simp only [rmv, code, h0, h3] <;> decide
  | 1, _ => match k', hk' with
    | 0, _ => simp only [rmv, code, h0, h1] <;> decide
    | 1, _ => simp only [rmv, code, h1] <;> decide
    | 2, _ => simp only [rmv, code, h1, h2] <;> decide
    | 3, _ => simp only [rmv, code, h1, h3] <;> decide
  | 2, _ => match k', hk' with
    | 0, _ => simp only [rmv, code, h0, h2] <;> decide
    | 1, _ => simp only [rmv, code, h1, h2] <;> decide
    | 2, _ => simp only [rmv, code, h2] <;> decide
    | 3, _ => simp only [rmv, code, h2, h3] <;> decide
  | 3, _ => match k', hk' with
    | 0, _ => simp only [rmv, code, h0, h3] <;> decide
    | 1, _ => simp only [rmv, code, h1, h3] <;> decide
    | 2, _ => simp only [rmv, code, h2, h3] <;> decide
    | 3, _ => simp only [rmv, code, h3] <;> decide
theorem rooms3 {L : List Pr} (h : ∀ p ∈ L, ∃ k, k < 4 ∧ p.fRoom = rmv k) : (nubL (roomsL L)).length ≤ 3 := by
  have : (nubL (roomsL L)).length ≤ [foldS rA, foldS rB, foldS rC].length := nodup_len (nodup_nubL _) fun x hx => by
    obtain ⟨p, hp, rfl⟩ := List.mem_map.1 (mem_nubL.1 hx)
    obtain ⟨k, hk, e⟩ := h p hp
    rw [e]
    match k, hk with
    | 0, _ => exact .head _
    | 1, _ => exact .tail _ (.head _)
    | 2, _ =>
      have : foldS (rmv 2) = foldS (rmv 1) := (eqS_iff _ _).1 (by rw [rmv_fold 2 (by omega) 1 (by omega)]; rfl)
      rw [this]; exact .tail _ (.head _)
    | 3, _ => exact .tail _ (.tail _ (.head _))
  exact this

/-- The names. -/
noncomputable def nm (i : Int) : ByteArray := catS ⟨#[110]⟩ (Utf8.encode (cvtI .i32 (addI .i64 97 i)))
theorem nm_b {i : Nat} (h : i < 100) : bytesOf (nm (i : Int)) = 110 :: encodeRune (97 + (i : Int)) := by
  unfold nm
  rw [catS_b, enc_b, addI_n (by omega) (by omega), cvt32 (by omega) (by omega)]
  rfl
theorem nm_size {i : Nat} (h : i < 100) : (nm (i : Int)).size ≤ 1000 := by
  rw [← bytesOf_len, nm_b h]
  have := (enc_len (97 + (i : Int))).2
  simp only [List.length_cons]; omega
theorem nm_good : ∀ i : Nat, i < 26 → goodB (runesL (110 :: encodeRune (97 + (i : Int)))) = true := by decide +kernel
theorem nm_bad : ∀ i : Nat, i < 30 → 26 ≤ i → goodB (runesL (110 :: encodeRune (97 + (i : Int)))) = false := by decide +kernel
theorem nm_fold : ∀ i : Nat, i < 26 → foldB (110 :: encodeRune (97 + (i : Int))) = [110, (97 + i).toUInt8] := by decide +kernel
theorem u8_inj {a b : Nat} (ha : a < 256) (hb : b < 256) (h : a.toUInt8 = b.toUInt8) : a = b := by
  have := congrArg UInt8.toNat h
  simp only [Nat.toUInt8, UInt8.toNat_ofNat'] at this
  omega
theorem nm_ne {i j : Nat} (hi : i < 26) (hj : j < 26) (h : i ≠ j) : eqS (foldS (nm i)) (foldS (nm j)) = false := by
  rw [eqF, nm_b (by omega), nm_b (by omega), nm_fold i hi, nm_fold j hj, decide_eq_false]
  intro q
  simp only [List.cons.injEq, and_true, true_and] at q
  have := u8_inj (by omega) (by omega) q
  omega
theorem find_at {L : List Pr} {nx : Int} (h : Tbl L nx) {p : Pr} (hp : p ∈ L) : findL L p.fN = some p := by
  have h1 := h.get hp noPr
  rw [(get_find p.fN noPr L).1] at h1
  have h2 : hasM eqI p.fN (entL L) = true := hasM_t (by rw [keys_ent]; exact List.mem_map.2 ⟨p, hp, rfl⟩)
  rw [(get_find p.fN noPr L).2] at h2
  obtain ⟨q, hq⟩ := Option.isSome_iff_exists.1 h2
  rw [hq] at h1 ⊢
  rw [← h1]; rfl
theorem hasN_no {l : List Pr} {name : ByteArray} (h : ∀ p ∈ l, eqS (foldS p.fName) (foldS name) = false) : hasN l name = false := by
  unfold hasN
  rw [List.any_eq_false]
  intro p hp
  rw [h p hp]; decide

set_option maxRecDepth 100000 in
theorem roomTogether_plain (x0 : List Int) : gLaw12RoomTogether x0 = some true := by
  obtain ⟨t, ht, hq⟩ := loop_ends (body := gLaw12RoomTogether.loop1 x0)
    (fun p => ∃ (i : Nat) (at' : List Int) (L : List Pr), p = ((i : Int), at', entL L, (i : Int)) ∧ Tbl L i ∧ L.length = i ∧ at'.length = i ∧ i ≤ 26 ∧
      ∀ j (h1 : j < L.length) (h2 : j < at'.length), ∃ k, k < 4 ∧ L[j] = ⟨(j : Int), nm j, rmv k⟩ ∧ at'[j] = code k)
    (fun t => t = .out true ∨ ∃ (i : Nat) (at' : List Int) (L : List Pr), t = .go (at', entL L, (i : Int)) ∧ Tbl L i ∧ L.length = i ∧ at'.length = i ∧ i ≤ 26 ∧
      ∀ j (h1 : j < L.length) (h2 : j < at'.length), ∃ k, k < 4 ∧ L[j] = ⟨(j : Int), nm j, rmv k⟩ ∧ at'[j] = code k)
    (fun p => (30 - p.1).toNat) (by
      rintro p ⟨i, at', L, rfl, hT, hL, hA, hi, hj⟩
      unfold gLaw12RoomTogether.loop1
      simp only
      by_cases hc : i < x0.length ∧ i < 30
      · have e : pickB (ltI (i : Int) (lenL x0)) (ltI (i : Int) 30) false = true := by
          rw [pickB_and, ltI_t (by unfold lenL; omega), ltI_t (by omega)]; rfl
        rw [e, cond_true, need_t (inB_at hc.1), nthI_at hc.1, next_at (by omega)]
        have em : bitsOp .and .i64 x0[i] 3 = x0[i] % 4 := and_mask' (j := 2) (by decide) x0[i] 3 (by decide)
        rw [em]
        obtain ⟨k, hk, ek⟩ : ∃ k : Nat, k < 4 ∧ x0[i] % 4 = (k : Int) := ⟨(x0[i] % 4).toNat, by omega, by omega⟩
        rw [ek]
        have er : nthI [(⟨#[97]⟩ : ByteArray), ⟨#[66]⟩, ⟨#[98]⟩, ⟨#[99]⟩] (k : Int) = rmv k := by
          match k, hk with
          | 0, _ => rfl
          | 1, _ => rfl
          | 2, _ => rfl
          | 3, _ => rfl
        have ec : nthI [(0 : Int), 1, 1, 2] (k : Int) = code k := by
          match k, hk with
          | 0, _ => rfl
          | 1, _ => rfl
          | 2, _ => rfl
          | 3, _ => rfl
        have hIn : InB (k : Int) 4 := ⟨by omega, by omega⟩
        have hcat : CatB ⟨#[110]⟩ (Utf8.encode (cvtI .i32 (addI .i64 97 (i : Int)))) := by
          have h1 : bytesOf (Utf8.encode (cvtI .i32 (addI .i64 97 (i : Int)))) = encodeRune (97 + (i : Int)) := by rw [enc_b, addI_n (by omega) (by omega), cvt32 (by omega) (by omega)]
          have h2 := (enc_len (97 + (i : Int))).2
          have h3 : (Utf8.encode (cvtI .i32 (addI .i64 97 (i : Int)))).size ≤ 4 := by rw [← bytesOf_len, h1]; exact h2
          unfold CatB
          have : (⟨#[110]⟩ : ByteArray).size = 1 := rfl
          omega
        rw [need_t hIn, need_t hcat, er, ec]
        have hjd := join_d hT (room := rmv k) (name := nm (i : Int)) (rmv_size k) (nm_size (by omega))
        have htj := hT.join (room := rmv k) (name := nm (i : Int)) (rmv_size k) (nm_size (by omega))
        have en : catS ⟨#[110]⟩ (Utf8.encode (cvtI .i32 (addI .i64 97 (i : Int)))) = nm (i : Int) := rfl
        rw [en, hjd, bind_so]
        have hgr := rmv_good k hk
        by_cases h26 : i < 26
        · have hgn : goodB (scan (nm (i : Int)) 0) = true := by rw [scan_b, nm_b (by omega)]; exact nm_good i h26
          have hno : hasN (inL L (rmv k)) (nm (i : Int)) = false := hasN_no fun p hp => by
            obtain ⟨j, hjl, rfl⟩ := List.getElem_of_mem (inL_mem hp)
            obtain ⟨k', _, e1, _⟩ := hj j hjl (by omega)
            rw [e1]
            exact nm_ne (by omega) h26 (by omega)
          have ej : joinL L (i : Int) (rmv k) (nm (i : Int)) = if fullL L (i : Int) (rmv k) = true then (L, (i : Int), 0, 11) else (L ++ [⟨(i : Int), nm (i : Int), rmv k⟩], (i : Int) + 1, (i : Int), 0) := by
            unfold joinL
            rw [if_pos ⟨hgr, hgn⟩, hno]
            simp
          rw [ej] at htj ⊢
          cases hf : fullL L (i : Int) (rmv k) with
          | true =>
            simp only [if_true]
            rw [neI_t (by decide), cond_true]
            refine Or.inl ?_
            have h16 : 16 ≤ i := by
              have h3 := rooms3 (L := L) fun p hp => by
                obtain ⟨j, hjl, rfl⟩ := List.getElem_of_mem hp
                obtain ⟨k', hk', e1, _⟩ := hj j hjl (by omega)
                exact ⟨k', hk', by rw [e1]⟩
              have h4 := inL_len L (rmv k)
              simp only [fullL, Bool.or_eq_true, Bool.and_eq_true, decide_eq_true_eq] at hf
              omega
            rw [leI_t (by unfold lenL; omega)]
          | false =>
            rw [hf] at htj
            simp only [Bool.false_eq_true, if_false] at htj ⊢
            rw [neI_f rfl, cond_false, need_t hIn, need_t (show AppB (lenL at') 1 8 from ⟨by unfold lenL; omega, by unfold lenL; omega⟩)]
            have e1 : (i : Int) + 1 = ((i + 1 : Nat) : Int) := by omega
            rw [e1] at htj ⊢
            refine ⟨⟨i + 1, _, _, rfl, htj, by simp [hL], by simp [appL, hA], by omega, fun j h1 h2 => ?_⟩, by simp only; omega⟩
            by_cases hlt : j < L.length
            · obtain ⟨k', hk', e2, e3⟩ := hj j hlt (by omega)
              refine ⟨k', hk', ?_, ?_⟩
              · rw [List.getElem_append_left hlt]; exact e2
              · have : j < at'.length := by omega
                simp only [appL]
                rw [List.getElem_append_left this]; exact e3
            · have hje : j = i := by simp only [List.length_append, List.length_cons, List.length_nil] at h1; omega
              subst hje
              refine ⟨k, hk, ?_, ?_⟩
              · rw [List.getElem_append_right (by omega)]; simp [hL]
              · simp only [appL]
                rw [List.getElem_append_right (by omega)]; simp [hA]
        · have hgn : goodB (scan (nm (i : Int)) 0) = false := by rw [scan_b, nm_b (by omega)]; exact nm_bad i hc.2 (by omega)
          have ej : joinL L (i : Int) (rmv k) (nm (i : Int)) = (L, (i : Int), 0, 6) := by
            unfold joinL
            rw [if_neg (by rw [hgn]; simp)]
          rw [ej]
          simp only
          rw [neI_t (by decide), cond_true, leI_t (by unfold lenL; omega)]
          exact Or.inl rfl
      · have e : pickB (ltI (i : Int) (lenL x0)) (ltI (i : Int) 30) false = false := by
          rw [pickB_and, Bool.and_eq_false_iff]
          by_cases q : i < x0.length
          · exact .inr (ltI_f (by omega))
          · exact .inl (ltI_f (by unfold lenL; omega))
        rw [e, cond_false]
        exact .inr ⟨i, at', L, rfl, hT, hL, hA, hi, hj⟩)
    (0, [], [], 0) ⟨0, [], [], rfl, Tbl.new, rfl, rfl, by omega, fun j h1 _ => by simp at h1⟩
  unfold gLaw12RoomTogether gRoomNew
  rw [awake_d]
  simp only [bind_so, notB_f', cond_false]
  rw [ht]
  rcases hq with rfl | ⟨i, at', L, rfl, hT, hL, hA, hi, hj⟩
  · rfl
  simp only [bind_so, flC_go]
  have hfind : ∀ (j : Nat) (h : j < L.length), findL L (j : Int) = some L[j] := fun j h => by
    obtain ⟨k, _, e1, _⟩ := hj j h (by omega)
    have := find_at hT (List.getElem_mem h)
    rw [show (L[j]).fN = (j : Int) by rw [e1]] at this
    exact this
  have w3 : ∀ (a : Nat), a < at'.length → loopF (gLaw12RoomTogether.loop3 (a : Int) (at', entL L, (i : Int))) 0 = some (.go ()) := by
    intro a ha
    refine walk_out (n := at'.length) (fun b => (b : Int)) (fun b hb => ?_) ?_
    · obtain ⟨ka, hka, ea1, ea2⟩ := hj a (by omega) ha
      obtain ⟨kb, hkb, eb1, eb2⟩ := hj b (by omega) hb
      unfold gLaw12RoomTogether.loop3
      simp only
      rw [ltI_t (by unfold lenL; omega), cond_true, together_d hT, bind_so, need_u (fun _ => inB_at ha), need_u (fun _ => inB_at hb), nthI_at ha, nthI_at hb, next_at (by omega)]
      have et : togL L (a : Int) (b : Int) = pickB (neI (a : Int) (b : Int)) (eqI at'[a] at'[b]) false := by
        unfold togL
        rw [hfind a (by omega), hfind b (by omega), pickB_and, neI_d, eqI_d, ea2, eb2]
        simp only [Option.isSome_some, Option.getD_some, Bool.true_and]
        rw [ea1, eb1]
        simp only
        rw [rmv_fold ka hka kb hkb]
      rw [et]
      have : ∀ b : Bool, neB b b = false := fun b => by cases b <;> rfl
      rw [this, cond_false]
    · unfold gLaw12RoomTogether.loop3
      simp only
      rw [ltI_f (by unfold lenL; omega), cond_false]
  have w2 : loopF (gLaw12RoomTogether.loop2 (at', entL L, (i : Int))) 0 = some (.go ()) := by
    refine walk_out (n := at'.length) (fun b => (b : Int)) (fun b hb => ?_) ?_
    · unfold gLaw12RoomTogether.loop2
      simp only
      rw [ltI_t (by unfold lenL; omega), cond_true, w3 b hb, next_at (by omega)]
      rfl
    · unfold gLaw12RoomTogether.loop2
      simp only
      rw [ltI_f (by unfold lenL; omega), cond_false]
  rw [w2]
  simp only [bind_so, flC_go]
  rw [together_d hT]
  have hnone : findL L 999 = none := by
    cases hf : findL L 999 with
    | none => rfl
    | some p =>
      obtain ⟨h1, h2⟩ := find_mem hf
      have := hT.rng p h1
      omega
  have : togL L 0 999 = false := by
    unfold togL
    rw [hnone]
    simp
  rw [this]
  rfl

/-! ### Numbers -/
noncomputable def nm2 (i : Int) : ByteArray := catS (catS ⟨#[110]⟩ (Utf8.encode (cvtI .i32 (addI .i64 97 (remI i 26))))) (Utf8.encode (cvtI .i32 (addI .i64 97 (quoI .i64 i 26))))
theorem rem26 {i : Nat} : remI (i : Int) 26 = ((i % 26 : Nat) : Int) := by
  unfold remI
  rw [Int.tmod_eq_emod_of_nonneg (by omega)]; omega
theorem quo26 {i : Nat} (h : i < 100) : quoI .i64 (i : Int) 26 = ((i / 26 : Nat) : Int) := by
  rw [quoI_n (by omega) (by omega) (by omega)]; omega
theorem cha_b {i : Nat} (h : i < 100) : bytesOf (Utf8.encode (cvtI .i32 (addI .i64 97 (i : Int)))) = encodeRune (97 + (i : Int)) := by rw [enc_b, addI_n (by omega) (by omega), cvt32 (by omega) (by omega)]
theorem cha_size {i : Nat} (h : i < 100) : (Utf8.encode (cvtI .i32 (addI .i64 97 (i : Int)))).size ≤ 4 := by
  rw [← bytesOf_len, cha_b h]
  exact (enc_len _).2
theorem nm2_b {i : Nat} (h : i < 60) : bytesOf (nm2 (i : Int)) = 110 :: (encodeRune (97 + ((i % 26 : Nat) : Int)) ++ encodeRune (97 + ((i / 26 : Nat) : Int))) := by
  unfold nm2
  rw [rem26, quo26 (by omega), catS_b, catS_b, cha_b (by omega), cha_b (by omega)]
  rfl
theorem nm2_size {i : Nat} (h : i < 60) : (nm2 (i : Int)).size ≤ 1000 := by
  rw [← bytesOf_len, nm2_b h]
  have h1 := (enc_len (97 + ((i % 26 : Nat) : Int))).2
  have h2 := (enc_len (97 + ((i / 26 : Nat) : Int))).2
  simp only [List.length_cons, List.length_append]; omega
theorem nm2_good : ∀ i : Nat, i < 60 → goodB (runesL (110 :: (encodeRune (97 + ((i % 26 : Nat) : Int)) ++ encodeRune (97 + ((i / 26 : Nat) : Int))))) = true := by decide +kernel
theorem nm2_fold : ∀ i : Nat, i < 60 → foldB (110 :: (encodeRune (97 + ((i % 26 : Nat) : Int)) ++ encodeRune (97 + ((i / 26 : Nat) : Int)))) = [110, (97 + i % 26).toUInt8, (97 + i / 26).toUInt8] := by decide +kernel
theorem nm2_ne {i j : Nat} (hi : i < 60) (hj : j < 60) (h : i ≠ j) : eqS (foldS (nm2 i)) (foldS (nm2 j)) = false := by
  rw [eqF, nm2_b hi, nm2_b hj, nm2_fold i hi, nm2_fold j hj, decide_eq_false]
  intro q
  simp only [List.cons.injEq, and_true, true_and] at q
  have h1 := u8_inj (by omega) (by omega) q.1
  have h2 := u8_inj (by omega) (by omega) q.2
  omega
abbrev sr : ByteArray := ⟨#[114]⟩
abbrev sR : ByteArray := ⟨#[82]⟩
theorem g_r : goodB (scan sr 0) = true := by rw [scan_b]; decide +kernel
theorem f_r : eqS (foldS sr) (foldS sR) = true := by rw [eqF]; decide +kernel
theorem inL_all {L : List Pr} {room : ByteArray} (h : ∀ p ∈ L, eqS (foldS p.fRoom) (foldS room) = true) : inL L room = L := List.filter_eq_self.2 h

theorem roomNumbers_plain (x0 : Int) (x1 : List Int) : gLaw12RoomNumbers x0 x1 = some true := by
  obtain ⟨t, ht, L, nx, rfl, hT, hr⟩ := loop_ends (body := gLaw12RoomNumbers.loop1 x0 x1)
    (fun p => ∃ (i : Nat) (L : List Pr) (nx : Int), p = ((i : Int), nx - 1, entL L, nx) ∧ Tbl L nx ∧ nx ≤ i ∧ i ≤ 60 ∧ ∀ p ∈ L, p.fRoom = sr ∧ ∃ j : Nat, j < i ∧ p.fName = nm2 (j : Int))
    (fun t => ∃ (L : List Pr) (nx : Int), t = .go (entL L, nx) ∧ Tbl L nx ∧ ∀ p ∈ L, p.fRoom = sr) (fun p => (60 - p.1).toNat) (by
      rintro p ⟨i, L, nx, rfl, hT, hn, hi, hp⟩
      unfold gLaw12RoomNumbers.loop1
      simp only
      by_cases hc : (i : Int) < minI (maxI x0 0) 60
      · have h60 : i < 60 := by rw [minI_d, maxI_d] at hc; omega
        have hcat1 : CatB ⟨#[110]⟩ (Utf8.encode (cvtI .i32 (addI .i64 97 (remI (i : Int) 26)))) := by
          rw [rem26]
          have h3 := cha_size (i := i % 26) (by omega)
          unfold CatB
          have : (⟨#[110]⟩ : ByteArray).size = 1 := rfl
          omega
        have hcat2 : CatB (catS ⟨#[110]⟩ (Utf8.encode (cvtI .i32 (addI .i64 97 (remI (i : Int) 26))))) (Utf8.encode (cvtI .i32 (addI .i64 97 (quoI .i64 (i : Int) 26)))) := by
          rw [rem26, quo26 (by omega)]
          have h3 := cha_size (i := i % 26) (by omega)
          have h4 := cha_size (i := i / 26) (by omega)
          have h5 : (catS ⟨#[110]⟩ (Utf8.encode (cvtI .i32 (addI .i64 97 ((i % 26 : Nat) : Int))))).size ≤ 5 := by
            rw [← bytesOf_len, catS_b, cha_b (by omega)]
            have := (enc_len (97 + ((i % 26 : Nat) : Int))).2
            simp only [List.length_append]
            have : (bytesOf ⟨#[110]⟩).length = 1 := rfl
            omega
          unfold CatB
          omega
        have h26 : NonZ 26 := by unfold NonZ; decide
        rw [ltI_t hc, cond_true, need_t h26, need_t hcat1, need_t h26, need_t hcat2]
        have en : catS (catS ⟨#[110]⟩ (Utf8.encode (cvtI .i32 (addI .i64 97 (remI (i : Int) 26))))) (Utf8.encode (cvtI .i32 (addI .i64 97 (quoI .i64 (i : Int) 26)))) = nm2 (i : Int) := rfl
        rw [en, join_d hT (room := sr) (name := nm2 (i : Int)) (by decide) (nm2_size h60), bind_so, next_at (by omega)]
        simp only
        have htj := hT.join (room := sr) (name := nm2 (i : Int)) (by decide) (nm2_size h60)
        have hgn : goodB (scan (nm2 (i : Int)) 0) = true := by rw [scan_b, nm2_b h60]; exact nm2_good i h60
        have hno : hasN (inL L sr) (nm2 (i : Int)) = false := hasN_no fun p hpl => by
          obtain ⟨_, j, hj, e⟩ := hp p (inL_mem hpl)
          rw [e]
          exact nm2_ne (by omega) h60 (by omega)
        have ej : joinL L nx sr (nm2 (i : Int)) = if fullL L nx sr = true then (L, nx, 0, 11) else (L ++ [⟨nx, nm2 (i : Int), sr⟩], nx + 1, nx, 0) := by
          unfold joinL
          rw [if_pos ⟨g_r, hgn⟩, hno]
          simp
        have hnum := hT.num
        -- behind the joining
        have rest : ∀ (L' : List Pr) (nx' : Int), Tbl L' nx' → nx' ≤ ((i + 1 : Nat) : Int) → (∀ p ∈ L', p.fRoom = sr ∧ ∃ j : Nat, j < i + 1 ∧ p.fName = nm2 (j : Int)) →
            RoundP (fun p => ∃ (i : Nat) (L : List Pr) (nx : Int), p = ((i : Int), nx - 1, entL L, nx) ∧ Tbl L nx ∧ nx ≤ i ∧ i ≤ 60 ∧ ∀ p ∈ L, p.fRoom = sr ∧ ∃ j : Nat, j < i ∧ p.fName = nm2 (j : Int))
              (fun t => ∃ (L : List Pr) (nx : Int), t = .go (entL L, nx) ∧ Tbl L nx ∧ ∀ p ∈ L, p.fRoom = sr) (fun p => (60 - p.1).toNat) ((i : Int), nx - 1, entL L, nx)
              (bif (ltI (i : Int) (lenL x1)) then (
                need (InB (i : Int) (lenL x1)) <|
                ((gRoomTablePeer (RoomTable.mk (entL L') nx') (bitsOp .and .i64 (nthI x1 (i : Int)) 31))).bind fun r4 =>
                need (InB (i : Int) (lenL x1)) <|
                ((gRoomTableLeave (RoomTable.mk (entL L') nx') (bitsOp .and .i64 (nthI x1 (i : Int)) 31))).bind fun r5 =>
                bif (neB (eqI r5.1 0) r4.2) then (
                  some (.out (.out false))
                ) else (
                  some (.go (((i + 1 : Nat) : Int), nx' - 1, r5.2.fPeers, r5.2.fNext))
                )
              ) else (
                some (.go (((i + 1 : Nat) : Int), nx' - 1, entL L', nx'))
              ) : Option (Fl (Int × Int × (List (Int × Pr)) × Int) (Fl ((List (Int × Pr)) × Int) Bool))) := by
          intro L' nx' hT' hn' hp'
          by_cases hx : i < x1.length
          · rw [ltI_t (by unfold lenL; omega), cond_true, need_t (inB_at hx), peer_d, bind_so, need_t (inB_at hx), leave_d hT', bind_so]
            have : neB (eqI (leaveE L' (bitsOp .and .i64 (nthI x1 (i : Int)) 31)) 0) (findL L' (bitsOp .and .i64 (nthI x1 (i : Int)) 31)).isSome = false := by
              unfold leaveE
              cases (findL L' (bitsOp .and .i64 (nthI x1 (i : Int)) 31)).isSome with
              | true => simp only [if_true]; rw [eqI_t rfl]; rfl
              | false => simp only [Bool.false_eq_true, if_false]; rw [eqI_f (by decide)]; rfl
            simp only
            rw [this, cond_false]
            exact ⟨⟨i + 1, _, nx', rfl, hT'.leave _, hn', by omega, fun p hpl => hp' p (List.mem_filter.1 hpl).1⟩, by simp only; omega⟩
          · rw [ltI_f (by unfold lenL; omega), cond_false]
            exact ⟨⟨i + 1, _, nx', rfl, hT', hn', by omega, hp'⟩, by simp only; omega⟩
        rw [ej] at htj ⊢
        cases hf : fullL L nx sr with
        | true =>
          simp only [if_true]
          rw [eqI_f (by decide), neI_f rfl]
          simp only [cond_false, bind_so, flC_go]
          exact rest L nx hT (by omega) fun p hpl => by
            obtain ⟨h1, j, h2, h3⟩ := hp p hpl
            exact ⟨h1, j, by omega, h3⟩
        | false =>
          rw [hf] at htj
          simp only [Bool.false_eq_true, if_false] at htj ⊢
          rw [eqI_t rfl, addI_n (by omega) (by omega), neI_f (by omega)]
          simp only [cond_true, cond_false, bind_so, flC_go]
          have e1 : nx = nx + 1 - 1 := by omega
          have := rest (L ++ [⟨nx, nm2 (i : Int), sr⟩]) (nx + 1) htj (by omega) fun p hpl => by
            rcases List.mem_append.1 hpl with hpl | hpl
            · obtain ⟨h1, j, h2, h3⟩ := hp p hpl
              exact ⟨h1, j, by omega, h3⟩
            · rw [List.mem_singleton.1 hpl]
              exact ⟨rfl, i, by omega, rfl⟩
          rw [← e1] at this
          exact this
      · rw [ltI_f hc, cond_false]
        exact ⟨L, nx, rfl, hT, fun p hpl => (hp p hpl).1⟩)
    (0, -1, [], 0) ⟨0, [], 0, rfl, Tbl.new, by omega, by omega, fun p hp => by cases hp⟩
  unfold gLaw12RoomNumbers gRoomNew
  rw [awake_d]
  simp only [bind_so, notB_f', cond_false]
  rw [ht]
  simp only [bind_so, flC_go]
  have hR : inL L sR = L := inL_all fun p hp => by rw [hr p hp]; exact f_r
  have h16 : L.length ≤ 16 := by
    have := hT.few sR
    rw [hR] at this
    exact this
  rw [len_room, bind_so, in_d hT (room := sR) (by decide) (by decide), hR]
  simp only [getD_so, need_s]
  rw [leI_t (by omega), eqI_t (by rfl)]
  rfl
end Go.Proofs
