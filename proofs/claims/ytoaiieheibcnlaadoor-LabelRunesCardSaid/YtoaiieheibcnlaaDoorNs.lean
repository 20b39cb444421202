/- The laws on names answer true. No condition. -/
import Derived.Test.YtoaiieheibcnlaaDoorNr
import Derived.Test.YtoaiieheibcnlaaDoorNfD
import Derived.Test.YtoaiieheibcnlaaDoorNgD
import Derived.Test.YtoaiieheibcnlaaDoorNhD
namespace Go.Proofs
open Go.Ab Go.Lib

theorem need_s {α β : Type} {a b : Bool} {v : β} {x : Option α} : need (Under a b ((some v).isSome = true)) x = x := need_t fun _ => rfl
theorem need_ss {α β : Type} {a b c d : Bool} {v : β} {x : Option α} : need (Under a b (Under c d ((some v).isSome = true))) x = x := need_t fun _ _ => rfl
theorem lit_0 (l : List UInt8) : restS ⟨l.toArray⟩ 0 = l := lit_b l
theorem scan_lit (l : List UInt8) : scan ⟨l.toArray⟩ 0 = runesL l := by unfold scan; rw [lit_0]
theorem g_ab : goodB (scan ⟨#[97, 45, 98]⟩ 0) = true := by
  rw [show (⟨#[97, 45, 98]⟩ : ByteArray) = ⟨[97, 45, 98].toArray⟩ from rfl, scan_lit]
  decide +kernel
theorem g_a : goodB (scan ⟨#[45, 97]⟩ 0) = false := by
  rw [show (⟨#[45, 97]⟩ : ByteArray) = ⟨[45, 97].toArray⟩ from rfl, scan_lit]
  decide +kernel
theorem f_ab : eqS (foldS ⟨#[65, 98]⟩) (foldS ⟨#[97, 66]⟩) = true := by
  rw [eqS_b, foldS_b, foldS_b, show (⟨#[65, 98]⟩ : ByteArray) = ⟨[65, 98].toArray⟩ from rfl, show (⟨#[97, 66]⟩ : ByteArray) = ⟨[97, 66].toArray⟩ from rfl, scan_lit, scan_lit]
  decide +kernel
theorem c_7 : clsR 55 = 2 := by decide +kernel
theorem s_abc : 65533 ∉ scan ⟨#[97, 98, 45, 99]⟩ 0 := by
  rw [show (⟨#[97, 98, 45, 99]⟩ : ByteArray) = ⟨[97, 98, 45, 99].toArray⟩ from rfl, scan_lit]
  decide +kernel
theorem h_abc : eqS (runesBytes (shortR (scan ⟨#[97, 98, 45, 99]⟩ 0) 3)) ⟨#[97, 98]⟩ = true := by
  rw [eqS_b, runes_b, show (⟨#[97, 98, 45, 99]⟩ : ByteArray) = ⟨[97, 98, 45, 99].toArray⟩ from rfl, scan_lit]
  decide +kernel

theorem awake_d : gLaw06Awake = some true := by
  unfold gLaw06Awake
  rw [check_d (s := ⟨#[97, 45, 98]⟩) (by decide), g_ab, check_d (s := ⟨#[45, 97]⟩) (by decide), g_a, same_d (a := ⟨#[65, 98]⟩) (b := ⟨#[97, 66]⟩) (by decide) (by decide) (by decide) (by decide), f_ab,
    class_d (r := 55) ⟨by decide, by decide⟩, c_7, short_d (s := ⟨#[97, 98, 45, 99]⟩) (by decide) s_abc 3]
  simp only [bind_so, getD_so, h_abc]
  simp only [need_s]
  rfl

theorem cut_d (s : ByteArray) {n : Int} (h0 : 0 ≤ n) (hn : n ≤ 1000) : ∃ t, gLaw01Cut s n = some t ∧ t.size ≤ 1000 := by
  unfold gLaw01Cut
  by_cases h : n < lenS s
  · rw [ltI_t h]
    refine ⟨cutS s 0 n, ?_, ?_⟩
    · simp only [cond_true]
      rw [need_t ⟨Int.le_refl _, h0, by omega⟩]
    · rw [← bytesOf_len, cutS_b]
      simp only [List.length_take]
      omega
  · rw [ltI_f h]
    refine ⟨s, rfl, ?_⟩
    unfold lenS at h
    omega

theorem labelChecks_plain (x0 : ByteArray) : gLaw06LabelChecks x0 = some true := by
  obtain ⟨t, h1, h2⟩ := cut_d x0 (n := 80) (by omega) (by omega)
  unfold gLaw06LabelChecks
  rw [h1, awake_d]
  simp only [bind_so]
  rw [check_d (s := t) (by omega), good_d h2]
  simp only [bind_so, getD_so]
  simp only [need_s]
  cases goodB (scan t 0) <;> rfl

theorem good_ne {s : ByteArray} (h : goodB (scan s 0) = true) : bytesOf s ≠ [] := fun e => by
  have : scan s 0 = [] := scan_f (by rw [restS_0, e])
  rw [this] at h
  simp [goodB] at h

theorem labelSame_plain (x0 x1 : ByteArray) : gLaw06LabelSame x0 x1 = some true := by
  obtain ⟨a, h1, h2⟩ := cut_d x0 (n := 60) (by omega) (by omega)
  obtain ⟨b, h3, h4⟩ := cut_d x1 (n := 60) (by omega) (by omega)
  unfold gLaw06LabelSame
  rw [h1, h3, awake_d]
  simp only [bind_so]
  rw [good_d h2, good_d h4]
  simp only [getD_so]
  simp only [need_s]
  cases ga : goodB (scan a 0) with
  | false => rfl
  | true =>
    cases gb : goodB (scan b 0) with
    | false => rfl
    | true =>
      have na := good_ne ga
      have nb := good_ne gb
      have e1 : pickB (pickB (notB true) true (notB true)) true (notB true) = false := rfl
      rw [e1]
      simp only [cond_false]
      rw [same_d (a := a) (b := b) (by omega) (by omega) na nb, same_d (a := b) (b := a) (by omega) (by omega) nb na, same_d (a := a) (b := a) (by omega) (by omega) na na, rfold_d (s := a) (by omega), rfold_d (s := b) (by omega)]
      simp only [bind_so, getD_so]
      simp only [need_s]
      rw [eqS_comm' (foldS b), eqS_self]
      cases eqS (foldS a) (foldS b) <;> rfl

/-! ### Names of any runes -/
theorem put_loop (x : List Int) (hx : ∀ r ∈ x, I32B r) : ∀ (m : Nat) (i : Int) (s : ByteArray), (i : Int) + m = 18 → 0 ≤ i → s.size ≤ 4 * i → ∃ t, loopF (gLaw06LabelRunes.loop1 x) (i, s) = some (.go t) ∧ t.size ≤ 72 := by
  intro m
  induction m with
  | zero =>
    intro i s hm _ hs
    have e : pickB (ltI i (lenL x)) (ltI i 18) false = false := by rw [pickB_and, ltI_f (b := 18) (by omega)]; simp
    rw [loopF_eq]
    simp only [gLaw06LabelRunes.loop1, e, cond_false]
    exact ⟨s, rfl, by omega⟩
  | succ m ih =>
    intro i s hm hi hs
    rw [loopF_eq]
    by_cases h : i < lenL x
    · have e : pickB (ltI i (lenL x)) (ltI i 18) false = true := by rw [pickB_and, ltI_t h, ltI_t (by omega)]; rfl
      have hr : I32B (nthI x i) := by
        refine hx _ ?_
        unfold lenL at h
        unfold nthI
        have : i.toNat < x.length := by omega
        rw [List.getD_eq_getElem?_getD, List.getElem?_eq_getElem this]
        exact List.getElem_mem _
      have hel : (Utf8.encode (nthI x i)).size ≤ 4 := by
        rw [← bytesOf_len, enc_b]
        exact (enc_len _).2
      simp only [gLaw06LabelRunes.loop1, e, cond_true]
      rw [need_t (show InB _ _ from ⟨hi, h⟩), need_t (show CatB _ _ by unfold CatB; omega), need_t (show InB _ _ from ⟨hi, h⟩), class_d hr]
      simp only [bind_so]
      rw [need_t (show InB _ _ from ⟨hi, h⟩), class_d' hr]
      simp only [bind_so]
      rw [neI_f rfl]
      simp only [cond_false]
      rw [addI_n (by omega) (by omega)]
      refine ih (i + 1) _ (by omega) (by omega) ?_
      rw [← bytesOf_len, catS_b, List.length_append, bytesOf_len, bytesOf_len]
      omega
    · have e : pickB (ltI i (lenL x)) (ltI i 18) false = false := by rw [pickB_and, ltI_f h]; rfl
      simp only [gLaw06LabelRunes.loop1, e, cond_false]
      exact ⟨s, rfl, by omega⟩

theorem scan_runes {l : List Int} (h : ∀ r ∈ l, ValidR r) : scan (runesBytes l) 0 = l := by
  unfold scan
  rw [restS_0, runes_b, runes_enc l h]
theorem scan_valid (s : ByteArray) (pos : Nat) : ∀ r ∈ scan s pos, ValidR r := runesL_valid _ _ (Nat.le_refl _)
theorem blen_le : ∀ l : List Int, (l.flatMap encodeRune).length ≤ 4 * l.length
  | [] => by simp
  | r :: l => by
    have := blen_le l
    have := (enc_len r).2
    simp only [List.flatMap_cons, List.length_append, List.length_cons]
    omega

theorem labelRunes_plain (x0 : List Int) (x1 : Int) (hx : ∀ r ∈ x0, I32B r) : gLaw06LabelRunes x0 x1 = some true := by
  obtain ⟨v, h1, h2⟩ := put_loop x0 hx 18 0 ⟨#[]⟩ (by omega) (by omega) (by decide)
  unfold gLaw06LabelRunes
  rw [awake_d]
  simp only [bind_so]
  rw [h1]
  simp only [bind_so, flC_go]
  rw [check_d (s := v) (by omega), good_d (s := v) (by omega)]
  simp only [bind_so]
  cases hg : goodB (scan v 0) with
  | false => rfl
  | true =>
    have hno := good_no hg
    have hne := good_ne hg
    have h16 : (scan v 0).length ≤ 16 := by
      unfold goodB at hg
      simp only [Bool.and_eq_true, decide_eq_true_eq] at hg
      exact hg.1.2
    obtain ⟨l, ok, k1, k2⟩ := runes_d (s := v) (by omega)
    rcases k2 with ⟨rfl, rfl⟩ | ⟨_, _, q⟩
    · have hfs : (foldS v).size ≤ 1000 := by
        rw [← bytesOf_len, foldS_b]
        have := blen_le ((scan v 0).map lowerR)
        rw [List.length_map] at this
        omega
      have hfn : bytesOf (foldS v) ≠ [] := by
        rw [foldS_b, scan_t (by rw [restS_0]; exact hne), List.map_cons, List.flatMap_cons]
        intro q
        have := congrArg List.length q
        have hz := (enc_len (lowerR (runeS v 0))).1
        simp only [List.length_append, List.length_nil] at this
        omega
      have hq := shortR_pre (scan v 0) x1
      obtain ⟨t, ht⟩ := hq
      have hqv : ∀ r ∈ shortR (scan v 0) x1, ValidR r := fun r hr => scan_valid v 0 r (by rw [ht]; exact List.mem_append_left _ hr)
      have hsz : (runesBytes (shortR (scan v 0) x1)).size ≤ 1000 := by
        rw [← bytesOf_len, runes_b]
        have h3 := blen_le (shortR (scan v 0) x1)
        have h4 : (scan v 0).length = (shortR (scan v 0) x1).length + t.length := by
          conv => lhs; rw [ht]
          simp
        omega
      rw [k1, short_d (s := v) (by omega) hno x1, len_d (s := v) (by omega), fold_d (s := v) (by omega) hne, rfold_d (s := v) (by omega), rshort_d (s := v) (by omega) hg x1]
      simp only [bind_so, getD_so]
      rw [check_d (s := runesBytes (shortR (scan v 0) x1)) (by omega), scan_runes hqv, fold_d (s := foldS v) (by omega) hfn, rfold_d (s := foldS v) (by omega)]
      simp only [getD_so]
      simp only [need_s, need_ss]
      have e1 : eqI ((scan v 0).length : Int) (lenL (scan v 0)) = true := eqI_t rfl
      rw [e1, eqS_self, eqS_self, eqS_self]
      rcases good_short hg x1 with h | h
      · have : eqS (runesBytes (shortR (scan v 0) x1)) ⟨#[]⟩ = true := by
          rw [h]; exact eqS_self _
        rw [this]
        rfl
      · rw [h]
        cases eqS (runesBytes (shortR (scan v 0) x1)) ⟨#[]⟩ <;> rfl
    · exact absurd q hno
end Go.Proofs
