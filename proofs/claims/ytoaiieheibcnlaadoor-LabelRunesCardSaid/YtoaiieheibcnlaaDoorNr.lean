/- Names: folded, shortened, counted. No condition. -/
import Derived.Test.YtoaiieheibcnlaaDoorNq
import Derived.Shelf.Strings.CaseAny
namespace Go.Proofs
open Go.Ab Go.Lib

/-! ### Folded -/
theorem lower_rng {r : Int} (h0 : 0 ≤ r) (h1 : r ≤ 1114111) : I32B (lowerR r) := by
  obtain ⟨n, rfl⟩ : ∃ n : Nat, r = n := ⟨r.toNat, by omega⟩
  have := toLowerU_range n (by omega)
  unfold lowerR
  exact ⟨by omega, by omega⟩
theorem lower_S (s : ByteArray) (pos : Nat) : I32B (lowerR (runeS s pos)) := by
  rw [runeS_d]
  have := rune_rng (restS s pos)
  exact lower_rng this.1 this.2
/-- A text with small letters. -/
noncomputable def foldS (s : ByteArray) : ByteArray := runesBytes ((scan s 0).map lowerR)
theorem foldS_b (s : ByteArray) : bytesOf (foldS s) = ((scan s 0).map lowerR).flatMap encodeRune := runes_b _
theorem runeZ_len (r : Int) : 1 ≤ (runeZ r).length ∧ (runeZ r).length ≤ 4 := encodeRuneZ_length r

theorem fold_loop (s : ByteArray) : ∀ (m pos : Nat) (out : List Int), (restS s pos).length ≤ m → out.length + 4 * m ≤ 100000000 →
    loopF (gLabelFold.loop1 s) (out, pos) = some (.go (out ++ (scan s pos).flatMap fun r => runeZ (lowerR r))) := by
  intro m
  induction m with
  | zero =>
    intro pos out hm _
    have h : restS s pos = [] := List.eq_nil_of_length_eq_zero (by omega)
    rw [loopF_eq]
    simp [gLabelFold.loop1, nextB_f h, scan_f h]
  | succ m ih =>
    intro pos out hm hb
    by_cases h : restS s pos = []
    · rw [loopF_eq]
      simp [gLabelFold.loop1, nextB_f h, scan_f h]
    have hst := step_gt s pos
    have hl := restS_len s pos
    have hl' := restS_len s (stepS s pos)
    have hpos := List.length_pos_iff.2 h
    have hz := runeZ_len (lowerR (runeS s pos))
    rw [loopF_eq, scan_t h]
    simp only [gLabelFold.loop1, nextB_t h, cond_true]
    rw [need_t (lower_S s pos), need_t (by unfold AppB lenL; omega)]
    simp only []
    rw [ih _ _ (by omega) (by simp only [appL, List.length_append]; omega)]
    simp [appL]

theorem fold_d {s : ByteArray} (hs : s.size ≤ 1000000) (h0 : bytesOf s ≠ []) : gLabelFold s = some (foldS s) := by
  unfold gLabelFold
  rw [fold_loop s s.size 0 [] (by rw [restS_len]; exact Nat.le_refl _) (by simp only [List.length_nil]; omega)]
  simp only [bind_so, flC_go, List.nil_append]
  have e : ((scan s 0).flatMap fun r => runeZ (lowerR r)) = ((scan s 0).map lowerR).flatMap runeZ := by rw [List.flatMap_map]
  rw [e, need_t]
  · congr 1
    exact bytes_ext (by rw [numsRune_b, foldS_b])
  · refine ⟨?_, fun x hx => ?_⟩
    · have hb0 : restS s 0 = bytesOf s := rfl
      rw [scan_t (by rw [hb0]; exact h0), List.map_cons, List.flatMap_cons]
      intro q
      have := congrArg List.length q
      have hz := runeZ_len (lowerR (runeS s 0))
      simp only [List.length_append, List.length_nil] at this
      omega
    · obtain ⟨r, _, hx⟩ := List.mem_flatMap.1 hx
      exact encodeRuneZ_byte r x hx

theorem rfold_loop (s : ByteArray) : ∀ (m pos : Nat) (out : List Int), (restS s pos).length ≤ m → out.length + m ≤ 10000000 →
    loopF (gRef06Fold.loop1 s) (out, pos) = some (.go (out ++ (scan s pos).map lowerR)) := by
  intro m
  induction m with
  | zero =>
    intro pos out hm _
    have h : restS s pos = [] := List.eq_nil_of_length_eq_zero (by omega)
    rw [loopF_eq]
    simp [gRef06Fold.loop1, nextB_f h, scan_f h]
  | succ m ih =>
    intro pos out hm hb
    by_cases h : restS s pos = []
    · rw [loopF_eq]
      simp [gRef06Fold.loop1, nextB_f h, scan_f h]
    have hst := step_gt s pos
    have hl := restS_len s pos
    have hl' := restS_len s (stepS s pos)
    have hpos := List.length_pos_iff.2 h
    rw [loopF_eq, scan_t h]
    simp only [gRef06Fold.loop1, nextB_t h, cond_true]
    rw [need_t (by unfold AppB lenL; omega)]
    simp only []
    rw [ih _ _ (by omega) (by simp only [appL, List.length_append, List.length_cons, List.length_nil]; omega)]
    simp [appL]
theorem rfold_d {s : ByteArray} (hs : s.size ≤ 1000000) : gRef06Fold s = some (foldS s) := by
  unfold gRef06Fold
  rw [rfold_loop s s.size 0 [] (by rw [restS_len]; exact Nat.le_refl _) (by simp only [List.length_nil]; omega)]
  rfl
theorem same_d {a b : ByteArray} (ha : a.size ≤ 1000000) (hb : b.size ≤ 1000000) (ha0 : bytesOf a ≠ []) (hb0 : bytesOf b ≠ []) : gLabelSame a b = some (eqS (foldS a) (foldS b)) := by
  unfold gLabelSame
  rw [fold_d ha ha0, fold_d hb hb0]
  rfl
theorem eqS_comm' (a b : ByteArray) : eqS a b = eqS b a := by
  rw [eqS_b, eqS_b]
  by_cases h : bytesOf a = bytesOf b
  · rw [decide_eq_true h, decide_eq_true h.symm]
  · rw [decide_eq_false h, decide_eq_false fun q => h q.symm]
theorem eqS_self (a : ByteArray) : eqS a a = true := (eqS_iff a a).2 rfl

/-! ### Counted -/
theorem len_loop (s : ByteArray) : ∀ (m pos : Nat) (n : Int), (restS s pos).length ≤ m → 0 ≤ n → n + m ≤ 100000000 →
    loopF (gLabelLen.loop1 s) (n, pos) = some (.go (n + (scan s pos).length)) := by
  intro m
  induction m with
  | zero =>
    intro pos n hm _ _
    have h : restS s pos = [] := List.eq_nil_of_length_eq_zero (by omega)
    rw [loopF_eq]
    simp [gLabelLen.loop1, nextB_f h, scan_f h]
  | succ m ih =>
    intro pos n hm hn hb
    by_cases h : restS s pos = []
    · rw [loopF_eq]
      simp [gLabelLen.loop1, nextB_f h, scan_f h]
    have hst := step_gt s pos
    have hl := restS_len s pos
    have hl' := restS_len s (stepS s pos)
    have hpos := List.length_pos_iff.2 h
    rw [loopF_eq, scan_t h]
    simp only [gLabelLen.loop1, nextB_t h, cond_true, addI_n (show -9223372036854775808 ≤ n + 1 by omega) (by omega)]
    rw [ih _ _ (by omega) (by omega) (by omega)]
    congr 2
    simp only [List.length_cons]
    omega
theorem len_d {s : ByteArray} (hs : s.size ≤ 1000000) : gLabelLen s = some ((scan s 0).length : Int) := by
  unfold gLabelLen
  rw [len_loop s s.size 0 0 (by rw [restS_len]; exact Nat.le_refl _) (by omega) (by omega)]
  simp

/-! ### Shortened -/
/-- Without joints at the end. -/
noncomputable def stripJ : List Int → List Int
  | [] => []
  | r :: l => match stripJ l with
    | [] => if clsR r = 3 then [] else [r]
    | x :: l' => r :: x :: l'
theorem strip_snoc : ∀ (p : List Int) (r : Int), stripJ (p ++ [r]) = if clsR r = 3 then stripJ p else p ++ [r]
  | [], r => by
    simp only [List.nil_append, stripJ]
  | a :: p, r => by
    have ih := strip_snoc p r
    rw [List.cons_append, stripJ, ih]
    by_cases h : clsR r = 3
    · simp only [h, if_true]
      rw [stripJ]
    · simp only [h, if_false]
      cases p <;> rfl
theorem strip_pre : ∀ (l : List Int), ∃ t, l = stripJ l ++ t
  | [] => ⟨[], rfl⟩
  | r :: l => by
    obtain ⟨t, ht⟩ := strip_pre l
    rw [stripJ]
    cases hs : stripJ l with
    | nil =>
      by_cases h : clsR r = 3
      · exact ⟨r :: l, by simp [h]⟩
      · exact ⟨l, by simp [h]⟩
    | cons x l' =>
      refine ⟨t, ?_⟩
      rw [hs] at ht
      simp only [List.cons_append]
      rw [← List.cons_append, ← ht]
theorem strip_last : ∀ (l q : List Int) (x : Int), stripJ l = q ++ [x] → clsR x ≠ 3
  | [], q, x, h => by simp [stripJ] at h
  | r :: l, q, x, h => by
    rw [stripJ] at h
    cases hs : stripJ l with
    | nil =>
      rw [hs] at h
      by_cases hc : clsR r = 3
      · simp [hc] at h
      · simp only [hc, if_false] at h
        have : q = [] ∧ r = x := by
          cases q with
          | nil => exact ⟨rfl, by simpa using h⟩
          | cons a b => simp at h
        rw [← this.2]; exact hc
    | cons y l' =>
      rw [hs] at h
      cases q with
      | nil => simp at h
      | cons a b =>
        simp only [List.cons_append, List.cons.injEq] at h
        exact strip_last l b x (by rw [hs]; exact h.2)

def blen (l : List Int) : Nat := (l.flatMap encodeRune).length
theorem blen_snoc (p : List Int) (r : Int) : blen (p ++ [r]) = blen p + (encodeRune r).length := by simp [blen]
theorem blen_app (p q : List Int) : blen (p ++ q) = blen p + blen q := by simp [blen]

theorem runeLen_d {r : Int} (h : ValidR r) : gUnicodeUtf8RuneLen r = some ((encodeRune r).length : Int) := by
  rw [← sizeR_enc h]
  unfold ValidR at h
  unfold gUnicodeUtf8RuneLen sizeR
  simp only [ltI_d, leI_d, pickB_and]
  have e0 : ¬ r < 0 := by omega
  simp only [e0, decide_false, cond_false]
  by_cases h1 : r < 128
  · have : r ≤ 127 := by omega
    simp [h1, this]
  have h1' : ¬ r ≤ 127 := by omega
  by_cases h2 : r < 2048
  · have : r ≤ 2047 := by omega
    simp [h1, h2, h1', this]
  have h2' : ¬ r ≤ 2047 := by omega
  have h3 : ¬ (55296 ≤ r ∧ r ≤ 57343) := by omega
  have h3' : (decide (55296 ≤ r) && decide (r ≤ 57343)) = false := by
    cases e : (decide (55296 ≤ r) && decide (r ≤ 57343)) with
    | false => rfl
    | true => simp at e; exact absurd e h3
  by_cases h4 : r < 65536
  · have : r ≤ 65535 := by omega
    simp [h1, h2, h1', h2', h3', h4, this]
  · have h4' : ¬ r ≤ 65535 := by omega
    have h5 : r ≤ 1114111 := by omega
    simp [h1, h2, h1', h2', h3', h4, h4', h5]

theorem short_loop (s : ByteArray) (n : Int) (hs : s.size ≤ 1000000) : ∀ (m pos : Nat) (P : List Int), (restS s pos).length ≤ m → 65533 ∉ scan s pos → blen P = pos → P.length + m ≤ 1000000 →
    loopF (gLabelShort.loop1 s n) ((P.length : Int), (blen (stripJ P) : Int), pos) = some (.go (blen (stripJ (P ++ (scan s pos).take (n - P.length).toNat)) : Int)) := by
  intro m
  induction m with
  | zero =>
    intro pos P hm _ _ _
    have h : restS s pos = [] := List.eq_nil_of_length_eq_zero (by omega)
    rw [loopF_eq]
    simp [gLabelShort.loop1, nextB_f h, scan_f h]
  | succ m ih =>
    intro pos P hm hno hP hb
    by_cases h : restS s pos = []
    · rw [loopF_eq]
      simp [gLabelShort.loop1, nextB_f h, scan_f h]
    have hst := step_gt s pos
    have hsl := step_le h
    have hl := restS_len s pos
    have hl' := restS_len s (stepS s pos)
    have hpos := List.length_pos_iff.2 h
    rw [loopF_eq]
    simp only [gLabelShort.loop1, nextB_t h, cond_true]
    by_cases hn : n ≤ P.length
    · rw [leI_t hn]
      have : (n - P.length).toNat = 0 := by omega
      rw [this]
      simp
    rw [leI_f hn]
    simp only [cond_false, class_d (rune_I32 s pos), bind_so]
    rw [scan_t h] at hno ⊢
    simp only [List.mem_cons, not_or] at hno
    have hd := runeS_d s pos
    have hv : ValidR (runeS s pos) := by rw [hd]; exact dec_valid _
    have he : encodeRune (runeS s pos) = (restS s pos).take (decodeL (restS s pos)).2 := by
      rw [hd]
      refine encode_decode _ h fun q => hno.1 ?_
      rw [hd, q.1]; rfl
    have hlen : (encodeRune (runeS s pos)).length = (decodeL (restS s pos)).2 := by
      rw [he, List.length_take, Nat.min_eq_left (decodeL_le _ h)]
    have hadd : addI .i64 (P.length : Int) 1 = ((P ++ [runeS s pos]).length : Nat) := by
      rw [addI_n (by omega) (by omega)]; simp
    have hbl : blen (P ++ [runeS s pos]) = stepS s pos := by rw [blen_snoc, hP, hlen, stepS_d]
    obtain ⟨j, hj⟩ : ∃ j, (n - P.length).toNat = j + 1 := ⟨(n - P.length).toNat - 1, by omega⟩
    have hj' : (n - (P ++ [runeS s pos]).length).toNat = j := by simp only [List.length_append, List.length_cons, List.length_nil]; omega
    have ih' := ih (stepS s pos) (P ++ [runeS s pos]) (by omega) hno.2 hbl (by simp only [List.length_append, List.length_cons, List.length_nil]; omega)
    rw [hj'] at ih'
    rw [hj, List.take_succ_cons, show P ++ runeS s pos :: (scan s (stepS s pos)).take j = (P ++ [runeS s pos]) ++ (scan s (stepS s pos)).take j by simp, ← ih', hadd]
    by_cases hc : clsR (runeS s pos) = 3
    · rw [neI_f hc]
      simp only [cond_false]
      rw [strip_snoc, if_pos hc]
    · rw [neI_t hc]
      simp only [cond_true, runeLen_d hv, bind_so]
      have hadd2 : addI .i64 (posI pos) ((encodeRune (runeS s pos)).length : Int) = (blen (P ++ [runeS s pos]) : Nat) := by
        unfold posI
        rw [addI_n (by omega) (by rw [hlen]; have := stepS_d s pos; omega), blen_snoc, hP]
        omega
      rw [strip_snoc, if_neg hc, hadd2]

/-- The first so many, without joints at the end. -/
noncomputable def shortR (l : List Int) (n : Int) : List Int := stripJ (l.take n.toNat)
theorem shortR_pre (l : List Int) (n : Int) : ∃ t, l = shortR l n ++ t := by
  obtain ⟨t, ht⟩ := strip_pre (l.take n.toNat)
  refine ⟨t ++ l.drop n.toNat, ?_⟩
  unfold shortR
  rw [← List.append_assoc, ← ht, List.take_append_drop]

theorem short_d {s : ByteArray} (hs : s.size ≤ 100000) (hno : 65533 ∉ scan s 0) (n : Int) : gLabelShort s n = some (runesBytes (shortR (scan s 0) n)) := by
  unfold gLabelShort
  have hL := short_loop s n (by omega) s.size 0 [] (by rw [restS_len]; exact Nat.le_refl _) hno rfl (by simp only [List.length_nil]; omega)
  have e0 : blen (stripJ []) = 0 := rfl
  simp only [List.length_nil, e0, List.nil_append] at hL
  rw [show (0 : Int) = ((0 : Nat) : Int) from rfl, hL]
  simp only [bind_so, flC_go]
  have eq : (n - ((0 : Nat) : Int)).toNat = n.toNat := by omega
  rw [eq]
  show need (CutB _ (minI ((blen (shortR (scan s 0) n) : Nat) : Int) (lenS s)) (lenS s)) _ = _
  obtain ⟨t, ht⟩ := shortR_pre (scan s 0) n
  have hb : bytesOf s = (scan s 0).flatMap encodeRune := (enc_runes _ (bytesOf s) (Nat.le_refl _) hno).symm
  have hle : blen (shortR (scan s 0) n) ≤ s.size := by
    rw [← bytesOf_len, hb]
    show _ ≤ blen (scan s 0)
    rw [ht, blen_app]
    rw [← ht]
    omega
  have hm : minI ((blen (shortR (scan s 0) n) : Nat) : Int) (lenS s) = (blen (shortR (scan s 0) n) : Nat) := by
    rw [minI_d]; unfold lenS; omega
  rw [need_t (by rw [hm]; exact ⟨Int.le_refl _, by omega, by unfold lenS; omega⟩)]
  congr 1
  refine bytes_ext ?_
  show bytesOf (cutS s _ (minI ((blen (shortR (scan s 0) n) : Nat) : Int) (lenS s))) = _
  rw [hm, cutS_b, runes_b]
  have : bytesOf s = (shortR (scan s 0) n).flatMap encodeRune ++ t.flatMap encodeRune := by
    rw [hb]
    conv => lhs; rw [ht]
    simp
  rw [this]
  have e2 : ((blen (shortR (scan s 0) n) : Nat) : Int).toNat - (((0 : Nat) : Int)).toNat = ((shortR (scan s 0) n).flatMap encodeRune).length := by
    simp [blen]
  simp only [Int.toNat_natCast, List.drop_zero, Nat.sub_zero]
  unfold blen
  exact List.take_left

theorem rshort_loop : ∀ (m : Nat) (i : Int) (l : List Int), (∀ r ∈ l, I32B r) → l.length ≤ m → 0 ≤ i → i + m ≤ 19 →
    loopF gRef06Short.loop1 (i, l) = some (.go (stripJ l)) := by
  intro m
  induction m with
  | zero =>
    intro i l _ hm _ _
    have : l = [] := List.eq_nil_of_length_eq_zero (by omega)
    subst this
    have e : pickB (ltI i 20) (ltI 0 (lenL ([] : List Int))) false = false := by rw [pickB_and]; simp [lenL, ltI_d]
    rw [loopF_eq]
    simp only [gRef06Short.loop1, e]
    rw [need_u (fun q => by cases q), need_u (fun q => by cases q)]
    rfl
  | succ m ih =>
    intro i l hl hm hi hb
    rcases List.eq_nil_or_concat l with h | ⟨q, x, h⟩
    · subst h
      have e : pickB (ltI i 20) (ltI 0 (lenL ([] : List Int))) false = false := by rw [pickB_and]; simp [lenL, ltI_d]
      rw [loopF_eq]
      simp only [gRef06Short.loop1, e]
      rw [need_u (fun q => by cases q), need_u (fun q => by cases q)]
      rfl
    · rw [List.concat_eq_append] at h
      have hL : l.length = q.length + 1 := by rw [h]; simp
      have hsub : subI .i64 (lenL l) 1 = ((q ++ [x]).length : Int) - 1 := by
        rw [subI_n (by unfold lenL; omega) (by unfold lenL; omega), h]
        unfold lenL
        rfl
      have hnth : nthI l (((q ++ [x]).length : Int) - 1) = x := by
        have := nth_snoc q [] x
        rw [List.append_nil] at this
        rw [h]; exact this
      have hx : I32B x := hl x (by rw [h]; simp)
      have e : pickB (ltI i 20) (ltI 0 (lenL l)) false = true := by
        rw [pickB_and, ltI_t (by omega), ltI_t (by unfold lenL; omega)]; rfl
      have e1 : ((q ++ [x]).length : Int) - 1 = q.length := by simp
      rw [loopF_eq]
      simp only [gRef06Short.loop1, e, hsub, hnth, class_d' hx, getD_so]
      rw [need_u (fun _ => (show InB _ _ from ⟨by omega, by unfold lenL; omega⟩)), need_u (fun _ => (show (some (clsR x)).isSome = true from rfl))]
      by_cases hc : clsR x = 3
      · have e2 : pickB true (eqI (clsR x) 3) false = true := by rw [eqI_t hc]; rfl
        rw [e2]
        simp only [cond_true]
        rw [need_t (show CutB _ _ _ from ⟨Int.le_refl _, by omega, by unfold lenL; omega⟩)]
        simp only []
        have hcut : cutL l 0 (((q ++ [x]).length : Int) - 1) = q := by
          rw [e1, h]
          simp [cutL]
        rw [hcut, addI_n (by omega) (by omega), ih (i + 1) q (fun r hr => hl r (by rw [h]; simp [hr])) (by omega) (by omega) (by omega), h, strip_snoc, if_pos hc]
      · have e2 : pickB true (eqI (clsR x) 3) false = false := by rw [eqI_f hc]; rfl
        rw [e2]
        simp only [cond_false]
        rw [h, strip_snoc, if_neg hc]

theorem rshort_d {s : ByteArray} (hs : s.size ≤ 1000) (hg : goodB (scan s 0) = true) (n : Int) : gRef06Short s n = some (runesBytes (shortR (scan s 0) n)) := by
  obtain ⟨l, ok, h1, h2⟩ := runes_d (s := s) (by omega)
  have h16 : (scan s 0).length ≤ 16 := by
    unfold goodB at hg
    simp only [Bool.and_eq_true, decide_eq_true_eq] at hg
    exact hg.1.2
  rcases h2 with ⟨rfl, rfl⟩ | ⟨_, _, h⟩
  · unfold gRef06Short
    rw [h1]
    simp only [bind_so]
    have hm : minI (maxI n 0) (lenL (scan s 0)) = (min n.toNat (scan s 0).length : Nat) := by
      rw [minI_d, maxI_d]; unfold lenL; omega
    rw [hm, need_t (show CutB _ _ _ from ⟨by omega, by omega, by unfold lenL; omega⟩)]
    have hcut : cutL (scan s 0) 0 ((min n.toNat (scan s 0).length : Nat) : Int) = (scan s 0).take n.toNat := by
      unfold cutL
      simp only [Int.toNat_natCast, Int.toNat_zero, List.drop_zero, Nat.sub_zero]
      by_cases h : n.toNat ≤ (scan s 0).length
      · rw [Nat.min_eq_left h]
      · rw [Nat.min_eq_right (by omega), List.take_length, List.take_of_length_le (by omega)]
    rw [hcut, rshort_loop 16 0 _ (fun r hr => by
      have := scan_rng s 0 r (List.mem_of_mem_take hr)
      exact ⟨by omega, by omega⟩) (by rw [List.length_take]; omega) (by omega) (by omega)]
    rfl
  · exact absurd h (good_no hg)

/-- What is left of a name is one, or nothing. -/
theorem okRun_app : ∀ (q t : List Int) (p : Int), okRun p (q ++ t) = (okRun p q).bind fun k => okRun k t
  | [], t, p => rfl
  | r :: q, t, p => by
    rw [List.cons_append, okRun, okRun]
    split
    · rfl
    · exact okRun_app q t _
theorem okRun_last (q : List Int) (x p k : Int) (h : okRun p (q ++ [x]) = some k) : k = clsR x := by
  rw [okRun_app] at h
  cases hq : okRun p q with
  | none => rw [hq] at h; cases h
  | some k' =>
    rw [hq] at h
    simp only [bind_so, okRun] at h
    split at h
    · cases h
    · exact (Option.some.inj h).symm
theorem good_short {l : List Int} (hg : goodB l = true) (n : Int) : shortR l n = [] ∨ goodB (shortR l n) = true := by
  obtain ⟨t, ht⟩ := shortR_pre l n
  rcases List.eq_nil_or_concat (shortR l n) with h | ⟨q, x, h⟩
  · exact .inl h
  right
  rw [List.concat_eq_append] at h
  have hc : clsR x ≠ 3 := strip_last _ q x h
  unfold goodB at hg ⊢
  simp only [Bool.and_eq_true, decide_eq_true_eq] at hg
  obtain ⟨⟨g1, g2⟩, g3⟩ := hg
  have hne : l ≠ [] := fun e => by rw [e] at g1; simp at g1
  rw [okFrom_run l 3 hne, ht, okRun_app] at g3
  have hlen : l.length = (shortR l n).length + t.length := by
    conv => lhs; rw [ht]
    simp
  have hl1 : (shortR l n).length = q.length + 1 := by rw [h]; simp
  rw [okFrom_run _ 3 (by rw [h]; simp)]
  cases ho : okRun 3 (shortR l n) with
  | none =>
    rw [ho] at g3
    simp at g3
  | some k =>
    have hk : k = clsR x := okRun_last q x 3 k (by rw [← h]; exact ho)
    simp only [Bool.and_eq_true, decide_eq_true_eq]
    exact ⟨⟨by omega, by omega⟩, by rw [hk]; exact hc⟩
end Go.Proofs
