/- What both readers answer. No condition. -/
import Derived.Test.YtijaigjfacfhnaaDoorVd
namespace Go.Proofs
open Go.Ab

/-- A command and the bytes behind its kind. -/
inductive Shp : Cmd → List UInt8 → Prop
  | join (r n : List UInt8) (hr : r.length < 256) (hn : n.length < 256) : Shp (.mk 1 (ofB r) (ofB n) 0 0 0 0 false false []) (be 1 (r.length : Int) ++ (r ++ (be 1 (n.length : Int) ++ (n ++ []))))
  | leave (p : Int) (hp : 0 ≤ p ∧ p < 65536) : Shp (.mk 2 noS noS p 0 0 0 false false []) (be 2 p ++ [])
  | publish (p t : Int) (v : Bool) (ss : List Int) (hp : 0 ≤ p ∧ p < 65536) (ht : 0 ≤ t ∧ t < 256) (hl : ss.length < 256) (hs : ∀ x ∈ ss, 0 ≤ x ∧ x < 4294967296) : Shp (.mk 3 noS noS p 0 t 0 false v ss) (be 2 p ++ (be 1 t ++ (bitB v :: (be 1 (ss.length : Int) ++ (ss.flatMap (be 4) ++ [])))))
  | unpublish (p t : Int) (hp : 0 ≤ p ∧ p < 65536) (ht : 0 ≤ t ∧ t < 256) : Shp (.mk 4 noS noS p 0 t 0 false false []) (be 2 p ++ (be 1 t ++ []))
  | subscribe (p o t l : Int) (hp : 0 ≤ p ∧ p < 65536) (ho : 0 ≤ o ∧ o < 65536) (ht : 0 ≤ t ∧ t < 256) (hl : 0 ≤ l ∧ l < 256) : Shp (.mk 5 noS noS p o t l false false []) (be 2 p ++ (be 2 o ++ (be 1 t ++ (be 1 l ++ []))))
  | unsubscribe (p o t : Int) (hp : 0 ≤ p ∧ p < 65536) (ho : 0 ≤ o ∧ o < 65536) (ht : 0 ≤ t ∧ t < 256) : Shp (.mk 6 noS noS p o t 0 false false []) (be 2 p ++ (be 2 o ++ (be 1 t ++ [])))
  | mute (p t : Int) (b : Bool) (hp : 0 ≤ p ∧ p < 65536) (ht : 0 ≤ t ∧ t < 256) : Shp (.mk 7 noS noS p 0 t 0 b false []) (be 2 p ++ (be 1 t ++ (bitB b :: [])))
  | pause (p o t : Int) (b : Bool) (hp : 0 ≤ p ∧ p < 65536) (ho : 0 ≤ o ∧ o < 65536) (ht : 0 ≤ t ∧ t < 256) : Shp (.mk 8 noS noS p o t 0 b false []) (be 2 p ++ (be 2 o ++ (be 1 t ++ (bitB b :: []))))

theorem shp_kind {c : Cmd} {s : List UInt8} (h : Shp c s) : 1 ≤ c.fKind ∧ c.fKind ≤ 8 := by
  cases h <;> simp
theorem shp_sizes {c : Cmd} {s : List UInt8} (h : Shp c s) : c.fRoom.size < 256 ∧ c.fName.size < 256 ∧ c.fSsrcs.length < 256 := by
  have h0 : noS.size = 0 := rfl
  cases h <;> simp only [size_of, List.length_nil, h0] <;> omega
theorem prog_wf {k : Int} (hk : 1 ≤ k ∧ k ≤ 8) : (prog k).wf := by
  unfold prog
  rcases kinds hk with h | h | h | h | h | h | h | h <;> subst h <;> simp only [r1, r2, r3, r4, r5, r6, r7, r8, partsP, tkK, newC, Int.reduceEq, if_true, if_false]
  · exact num_wf fun _ _ => num_wf fun _ _ => trivial
  · exact num_wf fun _ => trivial
  · exact num_wf fun _ => num_wf fun _ => tru_wf fun _ => num_wf fun _ => many_wf fun _ => trivial
  · exact num_wf fun _ => num_wf fun _ => trivial
  · exact num_wf fun _ => num_wf fun _ => num_wf fun _ => num_wf fun _ => trivial
  · exact num_wf fun _ => num_wf fun _ => num_wf fun _ => trivial
  · exact num_wf fun _ => num_wf fun _ => tru_wf fun _ => trivial
  · exact num_wf fun _ => num_wf fun _ => num_wf fun _ => tru_wf fun _ => trivial
theorem ret_inv {c c' : Cmd} {s : List UInt8} (h : (Rd.ret c').run s 0 = (c, [], 0)) : c = c' ∧ s = [] := by
  simp only [Rd.run, Prod.mk.injEq] at h
  exact ⟨h.1.symm, h.2.1⟩
theorem prog_inv {k : Int} (hk : 1 ≤ k ∧ k ≤ 8) {s : List UInt8} {c : Cmd} (h : (prog k).run s 0 = (c, [], 0)) : Shp c s ∧ c.fKind = k := by
  unfold prog at h
  rcases kinds hk with q | q | q | q | q | q | q | q <;> subst q <;> simp only [r1, r2, r3, r4, r5, r6, r7, r8, partsP, tkK, newC, Int.reduceEq, if_true, if_false] at h
  · obtain ⟨a, s1, e1, a0, a1, h⟩ := run_num_inv h
    obtain ⟨r, s2, e2, hr, h⟩ := run_rd_inv h
    obtain ⟨b, s3, e3, b0, b1, h⟩ := run_num_inv h
    obtain ⟨n, s4, e4, hn, h⟩ := run_rd_inv h
    obtain ⟨rfl, e5⟩ := ret_inv h
    subst e5 e4 e3 e2 e1
    obtain ⟨a, rfl⟩ : ∃ m : Nat, a = m := ⟨a.toNat, by omega⟩
    obtain ⟨b, rfl⟩ : ∃ m : Nat, b = m := ⟨b.toNat, by omega⟩
    simp only [Int.toNat_natCast] at hr hn
    subst hr hn
    exact ⟨.join r n (by omega) (by omega), rfl⟩
  · obtain ⟨p, s1, e1, p0, p1, h⟩ := run_num_inv h
    obtain ⟨rfl, e5⟩ := ret_inv h
    subst e5 e1
    exact ⟨.leave p ⟨p0, p1⟩, rfl⟩
  · obtain ⟨p, s1, e1, p0, p1, h⟩ := run_num_inv h
    obtain ⟨t, s2, e2, t0, t1, h⟩ := run_num_inv h
    obtain ⟨v, s3, e3, h⟩ := run_tru_inv h
    obtain ⟨m, s4, e4, m0, m1, h⟩ := run_num_inv h
    obtain ⟨ss, s6, e6, hl, hs, h⟩ := run_many_inv h
    obtain ⟨rfl, e5⟩ := ret_inv h
    subst e5 e6 e4 e3 e2 e1
    obtain ⟨m, rfl⟩ : ∃ n : Nat, m = n := ⟨m.toNat, by omega⟩
    simp only [Int.toNat_natCast] at hl
    subst hl
    exact ⟨.publish p t v ss ⟨p0, p1⟩ ⟨t0, t1⟩ (by omega) hs, rfl⟩
  · obtain ⟨p, s1, e1, p0, p1, h⟩ := run_num_inv h
    obtain ⟨t, s2, e2, t0, t1, h⟩ := run_num_inv h
    obtain ⟨rfl, e5⟩ := ret_inv h
    subst e5 e2 e1
    exact ⟨.unpublish p t ⟨p0, p1⟩ ⟨t0, t1⟩, rfl⟩
  · obtain ⟨p, s1, e1, p0, p1, h⟩ := run_num_inv h
    obtain ⟨o, s2, e2, o0, o1, h⟩ := run_num_inv h
    obtain ⟨t, s3, e3, t0, t1, h⟩ := run_num_inv h
    obtain ⟨l, s4, e4, l0, l1, h⟩ := run_num_inv h
    obtain ⟨rfl, e5⟩ := ret_inv h
    subst e5 e4 e3 e2 e1
    exact ⟨.subscribe p o t l ⟨p0, p1⟩ ⟨o0, o1⟩ ⟨t0, t1⟩ ⟨l0, l1⟩, rfl⟩
  · obtain ⟨p, s1, e1, p0, p1, h⟩ := run_num_inv h
    obtain ⟨o, s2, e2, o0, o1, h⟩ := run_num_inv h
    obtain ⟨t, s3, e3, t0, t1, h⟩ := run_num_inv h
    obtain ⟨rfl, e5⟩ := ret_inv h
    subst e5 e3 e2 e1
    exact ⟨.unsubscribe p o t ⟨p0, p1⟩ ⟨o0, o1⟩ ⟨t0, t1⟩, rfl⟩
  · obtain ⟨p, s1, e1, p0, p1, h⟩ := run_num_inv h
    obtain ⟨t, s2, e2, t0, t1, h⟩ := run_num_inv h
    obtain ⟨v, s3, e3, h⟩ := run_tru_inv h
    obtain ⟨rfl, e5⟩ := ret_inv h
    subst e5 e3 e2 e1
    exact ⟨.mute p t v ⟨p0, p1⟩ ⟨t0, t1⟩, rfl⟩
  · obtain ⟨p, s1, e1, p0, p1, h⟩ := run_num_inv h
    obtain ⟨o, s2, e2, o0, o1, h⟩ := run_num_inv h
    obtain ⟨t, s3, e3, t0, t1, h⟩ := run_num_inv h
    obtain ⟨v, s4, e4, h⟩ := run_tru_inv h
    obtain ⟨rfl, e5⟩ := ret_inv h
    subst e5 e4 e3 e2 e1
    exact ⟨.pause p o t v ⟨p0, p1⟩ ⟨o0, o1⟩ ⟨t0, t1⟩, rfl⟩
theorem prog_fwd {s : List UInt8} {c : Cmd} (h : Shp c s) : (prog c.fKind).run s 0 = (c, [], 0) := by
  unfold prog
  cases h <;> simp only [r1, r2, r3, r4, r5, r6, r7, r8, partsP, tkK, newC, Int.reduceEq, if_true, if_false]
  case join r n hr hn =>
    rw [run_num_fwd (by omega) (by omega), run_rd_fwd (by simp), run_num_fwd (by omega) (by omega), run_rd_fwd (by simp)]
    rfl
  case leave p hp =>
    rw [run_num_fwd hp.1 hp.2]
    rfl
  case publish p t v ss hp ht hl hs =>
    rw [run_num_fwd hp.1 hp.2, run_num_fwd ht.1 ht.2, run_tru_fwd, run_num_fwd (by omega) (by omega), Int.toNat_natCast, run_many_fwd hs]
    rfl
  case unpublish p t hp ht =>
    rw [run_num_fwd hp.1 hp.2, run_num_fwd ht.1 ht.2]
    rfl
  case subscribe p o t l hp ho ht hl =>
    rw [run_num_fwd hp.1 hp.2, run_num_fwd ho.1 ho.2, run_num_fwd ht.1 ht.2, run_num_fwd hl.1 hl.2]
    rfl
  case unsubscribe p o t hp ho ht =>
    rw [run_num_fwd hp.1 hp.2, run_num_fwd ho.1 ho.2, run_num_fwd ht.1 ht.2]
    rfl
  case mute p t b hp ht =>
    rw [run_num_fwd hp.1 hp.2, run_num_fwd ht.1 ht.2, run_tru_fwd]
    rfl
  case pause p o t b hp ho ht =>
    rw [run_num_fwd hp.1 hp.2, run_num_fwd ho.1 ho.2, run_num_fwd ht.1 ht.2, run_tru_fwd]
    rfl

/-! ### The answer -/
def noC : Cmd := .mk 0 noS noS 0 0 0 0 false false []
def endE (x : Cmd × List UInt8 × Int) : Int := if x.2.1 ≠ [] ∧ x.2.2 = 0 then 2 else x.2.2
noncomputable def specP (s : List UInt8) : Option (Cmd × Int) := match s with
  | [] => some (noC, 1)
  | b :: l => if (b.toNat : Int) < 1 ∨ 8 < (b.toNat : Int) then some (noC, 3) else
    if endE ((prog b.toNat).run l 0) ≠ 0 then some (noC, endE ((prog b.toNat).run l 0)) else
      (gRef07Check ((prog b.toNat).run l 0).1).bind fun v => if v ≠ 0 then some (noC, v) else some (((prog b.toNat).run l 0).1, 0)
theorem endE_0 {x : Cmd × List UInt8 × Int} (h : endE x = 0) : x.2 = ([], 0) := by
  obtain ⟨c, l, e⟩ := x
  unfold endE at h
  simp only at h ⊢
  split at h
  · omega
  · rename_i q
    subst h
    cases l with
    | nil => rfl
    | cons a t => exact absurd ⟨by simp, rfl⟩ q

theorem stp1_nil : stp 1 [] 0 = ([], [], 1) := stp_short (by simp)
theorem stp1_cons (b : UInt8) (l : List UInt8) : stp 1 (b :: l) 0 = ([b], l, 0) := by rw [stp_ok (by simp)]; simp
theorem val1 (b : UInt8) : val [b] = b.toNat := by simp [val]
theorem rparse_d (s : List UInt8) : gRef07Parse (ofB s) = specP s := by
  unfold gRef07Parse
  rw [rt1]
  simp only [bind_so]
  cases s with
  | nil =>
    rw [stp1_nil]
    rfl
  | cons b l =>
    have hb := b.toNat_lt
    rw [stp1_cons, val1, neI_f (show (0 : Int) = 0 from rfl)]
    unfold specP
    simp only [cond_false, pickB_or, ltI_d]
    by_cases h : (b.toNat : Int) < 1 ∨ 8 < (b.toNat : Int)
    · have : (decide ((b.toNat : Int) < 1) || decide ((8 : Int) < (b.toNat : Int))) = true := by simpa using h
      rw [this, if_pos h]
      rfl
    · have : (decide ((b.toNat : Int) < 1) || decide ((8 : Int) < (b.toNat : Int))) = false := by simpa using h
      rw [this, if_neg h]
      have hp := rparts_d (k := (b.toNat : Int)) (by omega) l 0
      unfold newC at hp
      rw [cvt64 (by omega) (by omega)]
      simp only [cond_false]
      rw [show (⟨#[]⟩ : ByteArray) = noS from rfl, hp]
      simp only [bind_so, rend_d]
      rw [show (if ((prog (b.toNat : Int)).run l 0).2.1 ≠ [] ∧ ((prog (b.toNat : Int)).run l 0).2.2 = 0 then (2 : Int) else ((prog (b.toNat : Int)).run l 0).2.2) = endE ((prog (b.toNat : Int)).run l 0) from rfl]
      by_cases he : endE ((prog (b.toNat : Int)).run l 0) = 0
      · rw [neI_f he, if_neg (by simpa using he)]
        simp only [cond_false]
        congr 1
        funext v
        by_cases hv : v = 0
        · rw [neI_f hv, if_neg (by simpa using hv)]; rfl
        · rw [neI_t hv, if_pos hv]; rfl
      · rw [neI_t he, if_pos he]
        rfl

theorem hasL_nil {k : Int} (h : k < 1 ∨ 8 < k) : hasL k = [] := by
  unfold hasL
  rw [if_neg (by omega), if_neg (by omega), if_neg (by omega), if_neg (by omega), if_neg (by omega), if_neg (by omega), if_neg (by omega), if_neg (by omega)]
theorem hasL_ne {k : Int} (h : 1 ≤ k ∧ k ≤ 8) : (hasL k).isEmpty = false := by
  rcases kinds h with h | h | h | h | h | h | h | h <;> subst h <;> rfl
theorem hasL_nodup (k : Int) : (runesL (hasL k)).Nodup := by
  by_cases h : k < 1 ∨ 8 < k
  · rw [hasL_nil h]; decide +kernel
  · rcases kinds (k := k) (by omega) with h | h | h | h | h | h | h | h <;> subst h <;> simp only [r1, r2, r3, r4, r5, r6, r7, r8] <;> decide
theorem scan_has (k : Int) : scan (ofB (hasL k)) 0 = runesL (hasL k) := by unfold scan; rw [restS_0, ofB_b]
theorem run_nil {k : Int} (h : k < 1 ∨ 8 < k) (l : List UInt8) (e : Int) : (prog k).run l e = (newC k, l, e) := by
  unfold prog
  rw [hasL_nil h, show runesL [] = [] by decide +kernel]
  rfl
theorem parse_tail (k : Int) (l : List UInt8) (e : Int) (X : Option (Cmd × Int)) (hX : X = (if endE ((prog k).run l e) ≠ 0 then some (noC, endE ((prog k).run l e)) else
      (gControlCommandCheck ((prog k).run l e).1).bind fun v => if v ≠ 0 then some (noC, v) else some (((prog k).run l e).1, 0))) :
    ((loopF (gControlParse.loop2 (ofB (hasL k))) (OctetReader.mk (ofB l) e, k, ⟨#[]⟩, ⟨#[]⟩, 0, 0, 0, 0, false, false, true, [], 0)).bind fun f => flC f fun (v2 : OctetReader × Int × ByteArray × ByteArray × Int × Int × Int × Int × Bool × Bool × Bool × List Int) =>
      ((gOctetReaderEnd v2.1)).bind fun r6 =>
      bif (neI r6.1 0) then (
        some ((Antiphonref07Command.mk 0 ⟨#[]⟩ ⟨#[]⟩ 0 0 0 0 false false []), r6.1)
      ) else (
        ((gControlCommandCheck (Antiphonref07Command.mk v2.2.1 v2.2.2.1 v2.2.2.2.1 v2.2.2.2.2.1 v2.2.2.2.2.2.1 v2.2.2.2.2.2.2.1 v2.2.2.2.2.2.2.2.1 v2.2.2.2.2.2.2.2.2.1 v2.2.2.2.2.2.2.2.2.2.1 v2.2.2.2.2.2.2.2.2.2.2.2))).bind fun r7 =>
        bif (neI r7 0) then (
          some ((Antiphonref07Command.mk 0 ⟨#[]⟩ ⟨#[]⟩ 0 0 0 0 false false []), r7)
        ) else (
          some ((Antiphonref07Command.mk v2.2.1 v2.2.2.1 v2.2.2.2.1 v2.2.2.2.2.1 v2.2.2.2.2.2.1 v2.2.2.2.2.2.2.1 v2.2.2.2.2.2.2.2.1 v2.2.2.2.2.2.2.2.2.1 v2.2.2.2.2.2.2.2.2.2.1 v2.2.2.2.2.2.2.2.2.2.2.2), 0)
        )
      )) = X := by
  obtain ⟨f', h1⟩ := parts_loop (ofB (hasL k)) (runesL (hasL k)) 0 (newC k) true l e (scan_has k) (.inl ⟨rfl, rfl, hasL_nodup k⟩)
  have h1' : loopF (gControlParse.loop2 (ofB (hasL k))) (OctetReader.mk (ofB l) e, k, ⟨#[]⟩, ⟨#[]⟩, 0, 0, 0, 0, false, false, true, [], 0) = _ := h1
  rw [h1']
  simp only [bind_so, flC_go]
  rw [show partsP (runesL (hasL k)) (newC k) = prog k from rfl]
  obtain ⟨R, h2⟩ := end_d ((prog k).run l e).2.1 ((prog k).run l e).2.2
  rw [h2]
  simp only [bind_so]
  rw [show (if ((prog k).run l e).2.1 ≠ [] ∧ ((prog k).run l e).2.2 = 0 then (2 : Int) else ((prog k).run l e).2.2) = endE ((prog k).run l e) from rfl, hX]
  by_cases he : endE ((prog k).run l e) = 0
  · rw [neI_f he, if_neg (by simpa using he)]
    simp only [cond_false]
    congr 1
    funext v
    by_cases hv : v = 0
    · rw [neI_f hv, if_neg (by simpa using hv)]; rfl
    · rw [neI_t hv, if_pos hv]; rfl
  · rw [neI_t he, if_pos he]
    rfl
theorem spec_b (b : UInt8) (l : List UInt8) : specP (b :: l) = if (b.toNat : Int) < 1 ∨ 8 < (b.toNat : Int) then some (noC, 3) else
    if endE ((prog b.toNat).run l 0) ≠ 0 then some (noC, endE ((prog b.toNat).run l 0)) else
      (gRef07Check ((prog b.toNat).run l 0).1).bind fun v => if v ≠ 0 then some (noC, v) else some (((prog b.toNat).run l 0).1, 0) := rfl
theorem parse_d (s : List UInt8) : gControlParse (ofB s) = specP s := by
  unfold gControlParse gOctetRead gOctetReaderErr
  simp only [bind_so, u8_d, has_d, getD_so]
  cases s with
  | nil =>
    rw [stp1_nil]
    simp only [eqI_f (show (1 : Int) ≠ 0 by decide)]
    rw [need_s]
    simp only [pickB, cond_false, bind_so, flC_go, val_nil]
    rw [show cvtI .i64 0 = 0 by decide]
    refine parse_tail 0 [] 1 _ ?_
    rw [run_nil (by omega)]
    rfl
  | cons b l =>
    have hb := b.toNat_lt
    rw [stp1_cons, val1, cvt64 (by omega) (by omega)]
    simp only [eqI_t (show (0 : Int) = 0 from rfl), eqS_ofB]
    rw [need_s]
    rw [spec_b]
    by_cases h : (b.toNat : Int) < 1 ∨ 8 < (b.toNat : Int)
    · rw [show (hasL (b.toNat : Int)).isEmpty = true by rw [hasL_nil h]; rfl, if_pos h, fail_d _ _ _ (by omega)]
      simp only [pickB, cond_true, bind_so, flC_go]
      rw [show (flt 3 l 0) = ([], 3) from rfl]
      refine parse_tail b.toNat [] 3 _ ?_
      rw [run_nil h]
      rfl
    · rw [hasL_ne (by omega), if_neg h]
      simp only [pickB, cond_true, cond_false, bind_so, flC_go]
      refine parse_tail b.toNat l 0 _ ?_
      by_cases he : endE ((prog (b.toNat : Int)).run l 0) = 0
      · rw [if_neg (by simpa using he), if_neg (by simpa using he)]
        have h2 := endE_0 he
        obtain ⟨hs, _⟩ := prog_inv (k := (b.toNat : Int)) (by omega) (s := l) (c := ((prog (b.toNat : Int)).run l 0).1) (by rw [← h2])
        obtain ⟨z1, z2, z3⟩ := shp_sizes hs
        rw [check_eq _ (by omega) (by omega) (by omega)]
      · rw [if_pos he, if_pos he]

/-! ### What it says -/
theorem kb {k : Int} (h : 1 ≤ k ∧ k ≤ 8) : be 1 k = [k.toNat.toUInt8] := by
  rcases kinds h with h | h | h | h | h | h | h | h <;> subst h <;> rfl
theorem kb' {k : Int} (h : 1 ≤ k ∧ k ≤ 8) : ((k.toNat.toUInt8).toNat : Int) = k := byte_of (by omega) (by omega)
theorem spec_cons {k : Int} (h : 1 ≤ k ∧ k ≤ 8) (l : List UInt8) : specP (be 1 k ++ l) = if endE ((prog k).run l 0) ≠ 0 then some (noC, endE ((prog k).run l 0)) else
      (gRef07Check ((prog k).run l 0).1).bind fun v => if v ≠ 0 then some (noC, v) else some (((prog k).run l 0).1, 0) := by
  rw [kb h]
  show specP (k.toNat.toUInt8 :: l) = _
  unfold specP
  dsimp only
  rw [kb' h]
  rw [if_neg (by omega)]
theorem spec_of {c : Cmd} {l : List UInt8} (h : Shp c l) (hc : gRef07Check c = some 0) : specP (be 1 c.fKind ++ l) = some (c, 0) := by
  rw [spec_cons (shp_kind h), prog_fwd h]
  show (if endE (c, [], 0) ≠ 0 then _ else _) = _
  rw [if_neg (by simp [endE])]
  simp only [hc, bind_so]
  rfl
theorem spec_pre {c : Cmd} {l p t : List UInt8} (h : Shp c l) (hs : be 1 c.fKind ++ l = p ++ t) (ht : t ≠ []) : specP p = some (noC, 1) := by
  have hk := shp_kind h
  cases p with
  | nil => rfl
  | cons b q =>
    rw [kb hk] at hs
    simp only [List.cons_append, List.nil_append, List.cons.injEq] at hs
    obtain ⟨hb, hs⟩ := hs
    have := run_pre (prog c.fKind) (prog_wf hk) l q t c (prog_fwd h) hs ht
    have e : b :: q = be 1 c.fKind ++ q := by rw [kb hk, hb]; rfl
    rw [e, spec_cons hk]
    have he : endE ((prog c.fKind).run q 0) = 1 := by
      unfold endE
      rw [this]
      simp
    rw [he]
    rfl
theorem spec_app {c : Cmd} {l t : List UInt8} (h : Shp c l) (ht : t ≠ []) : specP (be 1 c.fKind ++ l ++ t) = some (noC, 2) := by
  have hk := shp_kind h
  have := run_app (prog c.fKind) (prog_wf hk) l t c (prog_fwd h)
  rw [List.append_assoc, spec_cons hk]
  have he : endE ((prog c.fKind).run (l ++ t) 0) = 2 := by
    unfold endE
    rw [this]
    simp [ht]
  rw [he]
  rfl
theorem spec_some (s : List UInt8) : ∃ c e, specP s = some (c, e) ∧ ((e ≠ 0 ∧ c = noC) ∨ (e = 0 ∧ Valid c ∧ gRef07Check c = some 0 ∧ ∃ l, Shp c l ∧ s = be 1 c.fKind ++ l)) := by
  cases s with
  | nil => exact ⟨noC, 1, rfl, .inl ⟨by omega, rfl⟩⟩
  | cons b l =>
    unfold specP
    dsimp only
    by_cases h : (b.toNat : Int) < 1 ∨ 8 < (b.toNat : Int)
    · rw [if_pos h]
      exact ⟨noC, 3, rfl, .inl ⟨by omega, rfl⟩⟩
    rw [if_neg h]
    by_cases he : endE ((prog (b.toNat : Int)).run l 0) = 0
    · rw [if_neg (by simpa using he)]
      have h2 := endE_0 he
      have h3 : (prog (b.toNat : Int)).run l 0 = (((prog (b.toNat : Int)).run l 0).1, [], 0) := by rw [← h2]
      obtain ⟨hs, hk⟩ := prog_inv (k := (b.toNat : Int)) (by omega) h3
      generalize ((prog (b.toNat : Int)).run l 0).1 = c at *
      obtain ⟨z1, z2, z3⟩ := shp_sizes hs
      obtain ⟨v, hv, hval⟩ := check_some c (by omega) (by omega) (by omega)
      rw [hv]
      simp only [bind_so]
      by_cases h0 : v = 0
      · rw [if_neg (by simpa using h0)]
        refine ⟨c, 0, rfl, .inr ⟨rfl, hval h0, by rw [hv, h0], l, hs, ?_⟩⟩
        rw [hk, kb (by omega), Int.toNat_natCast]
        simp
      · rw [if_pos h0]
        exact ⟨noC, v, rfl, .inl ⟨h0, rfl⟩⟩
    · rw [if_pos he]
      exact ⟨noC, _, rfl, .inl ⟨he, rfl⟩⟩
end Go.Proofs
