/- The law IngressLost holds of its plain function. No condition. -/
import Derived.Test.YtbijdlgffebenaaJn
import Derived.Test.YtbijdlgffebenaaQ08
namespace Go.Proofs
open Go.Ab

/-! ### The numbers that don't come -/
theorem keys_set {k v : Int} : ∀ {m : List (Int × Int)} {q : Int}, q ∈ keysM (setM eqI k v m) → q = k ∨ q ∈ keysM m
  | [], q, h => .inl (List.mem_singleton.1 h)
  | e :: r, q, h => by
    unfold setM at h
    split at h
    · rcases List.mem_cons.1 h with h | h
      · exact .inl h
      · exact .inr (.tail _ h)
    · rcases List.mem_cons.1 h with h | h
      · exact .inr (List.mem_cons.2 (.inl h))
      · rcases keys_set h with h | h
        · exact .inl h
        · exact .inr (.tail _ h)
theorem lost_loop (x2 : List Int) : ∃ v3, loopF (ga.loop3 x2) (0, []) = some (.go v3) ∧ ∀ k ∈ keysM v3, 1 ≤ k := by
  obtain ⟨t, ht, v, rfl, hv⟩ := loop_ends (body := ga.loop3 x2) (fun q => 0 ≤ q.1 ∧ q.1 ≤ 20 ∧ ∀ k ∈ keysM q.2, 1 ≤ k) (fun t => ∃ v, t = .go v ∧ ∀ k ∈ keysM v, 1 ≤ k) (fun q => (20 - q.1).toNat)
    (fun q hq => by
      obtain ⟨i, m⟩ := q
      obtain ⟨h0, h1, h2⟩ := hq
      simp only at h0 h1 h2
      unfold ga.loop3
      dsimp only
      by_cases hc : i < lenL x2 ∧ i < 20
      · rw [ltI_d, ltI_d, pickB_and, ← Bool.decide_and, decide_eq_true hc, cond_true, Le ⟨h0, hc.1⟩]
        have ha : bitsOp .and .i64 (nthI x2 i) 63 = nthI x2 i % 64 := and_mask' (j := 6) (by omega) _ 63 rfl
        have hk : addI .i64 1 (bitsOp .and .i64 (nthI x2 i) 63) = 1 + nthI x2 i % 64 := by rw [ha, addI_n (by omega) (by omega)]
        have hi : addI .i64 i 1 = i + 1 := addI_n (by omega) (by omega)
        rw [hk, hi]
        refine ⟨⟨by show 0 ≤ i + 1; omega, by show i + 1 ≤ 20; omega, fun k hk => ?_⟩, by show (20 - (i + 1)).toNat < (20 - i).toNat; omega⟩
        rcases keys_set hk with h | h
        · omega
        · exact h2 k h
      · rw [ltI_d, ltI_d, pickB_and, ← Bool.decide_and, decide_eq_false hc, cond_false]
        exact ⟨m, rfl, h2⟩) (0, []) ⟨by decide, by decide, fun k hk => by cases hk⟩
  exact ⟨v, ht, hv⟩
def absN (v : List (Int × Int)) (k : Nat) : Bool := !(eqI (getM eqI (k : Int) 0 v) 0)
theorem abs_key {v : List (Int × Int)} {k : Nat} (h : absN v k = true) : (k : Int) ∈ keysM v :=
  Classical.byContradiction fun hn => by
    unfold absN at h
    rw [getM_no hn] at h
    cases h

/-! ### A source that packets don't come to -/
theorem cntP_le : ∀ a : List Pk, 0 ≤ cntP a ∧ cntP a ≤ a.length
  | [] => ⟨Int.le_refl _, Int.le_refl _⟩
  | p :: r => by
    have := cntP_le r
    show 0 ≤ (if p.fA = true then 1 else 0) + cntP r ∧ (if p.fA = true then 1 else 0) + cntP r ≤ ((p :: r).length : Int)
    simp only [List.length_cons, Int.natCast_add]
    split <;> omega
theorem cntM_nn (L : List Came) : ∀ a : List Thg, 0 ≤ cntM L a
  | [] => Int.le_refl _
  | t :: r => by
    have := cntM_nn L r
    show 0 ≤ (if (findP L t.fAt).fA = true then 1 else 0) + cntM L r
    split <;> omega
theorem take_one {l : List Pk} {j : Nat} (h : j < l.length) : l.take (j + 1) = l.take j ++ [nthI l (j : Int)] := by
  rw [List.take_succ_eq_append_getElem h]
  simp [nthI, h]
theorem cnt_take {l : List Pk} {j : Nat} (h : j < l.length) : cntP (l.take (j + 1)) = cntP (l.take j) + (if (nthI l (j : Int)).fA = true then 1 else 0) := by
  rw [take_one h, cntP_app]
  show _ + (_ + 0) = _
  omega

theorem seq_in {x1 : Int} {last j : Nat} (h : last < j) (hj : j ≤ 100) : seqM ⟨true, 1048576 + x1 % 65536 + last, -1, 0, 0⟩ (addI .u16 x1 (cvtI .u16 j)) = (⟨true, 1048576 + x1 % 65536 + j, -1, 0, 0⟩, 1048576 + x1 % 65536 + j, true) := by
  have hn : addI .u16 x1 (cvtI .u16 j) = (x1 + j) % 65536 := by unfold addI cvtI; rw [wrapU16, wrapU16]; omega
  rw [hn]
  have hd : nearS (1048576 + x1 % 65536 + last) ((x1 + j) % 65536) = 1048576 + x1 % 65536 + j := by
    unfold nearS distS
    have : ((x1 + j) % 65536 - (1048576 + x1 % 65536 + last) % 65536) % 65536 = j - last := by omega
    rw [this, if_pos (by omega)]; omega
  unfold seqM
  rw [if_neg (by simp)]
  simp only
  rw [hd, if_pos ⟨by omega, by omega⟩]
  have e : max (1048576 + x1 % 65536 + (last : Int)) (1048576 + x1 % 65536 + j) = 1048576 + x1 % 65536 + j := by omega
  rw [e]

structure BOk (x1 : Int) (ab : Nat → Bool) (l : List Pk) (j : Nat) (m : Int) (X : Te) : Prop where
  fr : (j = 0 ∧ X = ref0 true 6 4 8) ∨ (0 < j ∧ (∃ last : Nat, last < j ∧ X.ff = ⟨true, 1048576 + x1 % 65536 + last, -1, 0, 0⟩) ∧ X.fo.fd = true ∧ X.fo.fq = 4 ∧ Jo (1048576 + x1 % 65536) ab j X.fo)
  cm : ∀ c ∈ X.fL, c.fAt < 1048576 + x1 % 65536 + j
  ct : m + cntM X.fL X.fo.fL ≤ cntP (l.take j)

theorem b_beg {x1 : Int} {ab : Nat → Bool} {l : List Pk} {j : Nat} {m : Int} {X : Te} (h : BOk x1 ab l j m X) (hj : j ≤ 100) :
    seqM X.ff (addI .u16 x1 (cvtI .u16 j)) = (⟨true, 1048576 + x1 % 65536 + j, -1, 0, 0⟩, 1048576 + x1 % 65536 + j, true) ∧ Jo (1048576 + x1 % 65536) ab j (begS X.fo ⟨1048576 + x1 % 65536 + j, ⟨#[]⟩, j⟩) ∧
      (begS X.fo ⟨1048576 + x1 % 65536 + j, ⟨#[]⟩, j⟩).fL = X.fo.fL ∧ (begS X.fo ⟨1048576 + x1 % 65536 + j, ⟨#[]⟩, j⟩).fq = 4 ∧ (begS X.fo ⟨1048576 + x1 % 65536 + j, ⟨#[]⟩, j⟩).fd = true := by
  rcases h.fr with ⟨h0, hX⟩ | ⟨h0, ⟨last, hl, hs⟩, hb, hw, hJ⟩
  · subst h0 hX
    refine ⟨?_, ?_, rfl, rfl, rfl⟩
    · have hn : addI .u16 x1 (cvtI .u16 ((0 : Nat) : Int)) = x1 % 65536 := by unfold addI cvtI; rw [wrapU16, wrapU16]; omega
      rw [hn]
      unfold seqM
      have hf : (ref0 true 6 4 8).ff.fd = false := rfl
      rw [if_pos hf]
      have e : 1048576 + x1 % 65536 + ((0 : Nat) : Int) = 1048576 + x1 % 65536 := by omega
      rw [e]
    · have e : begS (ref0 true 6 4 8).fo ⟨1048576 + x1 % 65536 + ((0 : Nat) : Int), ⟨#[]⟩, ((0 : Nat) : Int)⟩ = ⟨6, 4, true, 1048576 + x1 % 65536 + ((0 : Nat) : Int), [], 0⟩ := rfl
      rw [e]
      exact ⟨trivial, ⟨0, rfl, Nat.le_refl _, rfl⟩, fun _ hm => (by cases hm), fun k hk => (by omega)⟩
  · have e : begS X.fo ⟨1048576 + x1 % 65536 + j, ⟨#[]⟩, j⟩ = X.fo := by unfold begS; rw [if_pos hb]
    rw [e, hs]
    exact ⟨seq_in hl hj, hJ, rfl, hw, hb⟩

theorem b_step {x1 : Int} {ab : Nat → Bool} {l : List Pk} {j : Nat} {m : Int} {X : Te} (h : BOk x1 ab l j m X) (hj : j ≤ 100) (hl : j < l.length) (hab : ab j = false) (hp : (nthI l (j : Int)).ff = addI .u16 x1 (cvtI .u16 j)) :
    BOk x1 ab l (j + 1) (m + lenL (putM cL X (nthI l (j : Int)) j).2.1) (putM cL X (nthI l (j : Int)) j).1 := by
  obtain ⟨k1, k2, k3, k4, k5⟩ := b_beg h hj
  obtain ⟨r0, r1, r2, r3, r4⟩ := put_jo k2 k3 hab rfl rfl
  rw [← hp] at k1
  generalize hP : putS X.fo ⟨1048576 + x1 % 65536 + j, ⟨#[]⟩, j⟩ = P at r0 r1 r2 r3 r4
  obtain ⟨bo, outs, er⟩ := P
  simp only at r0 r1 r2 r3 r4
  subst r0
  rw [put_taken (X := X) (p := nthI l (j : Int)) k1 hP rfl]
  generalize hL' : X.fL ++ [(⟨1048576 + x1 % 65536 + j, nthI l (j : Int)⟩ : Came)] = L'
  have hpend : ∀ u ∈ X.fo.fL, u.fAt ≠ 1048576 + x1 % 65536 + j := fun u hu e => by
    rw [← k3] at hu
    obtain ⟨k, q1, q2, _⟩ := (k2.mem u hu).at_
    omega
  refine ⟨.inr ⟨by omega, ⟨j, by omega, rfl⟩, r4.trans k5, r3.trans k4, r1⟩, fun c hc => ?_, ?_⟩
  · have hc' : c ∈ L' := hc
    rw [← hL'] at hc'
    rcases List.mem_append.1 hc' with hc | hc
    · have := h.cm c hc; omega
    · rw [List.mem_singleton.1 hc]
      show 1048576 + x1 % 65536 + (j : Int) < 1048576 + x1 % 65536 + ((j + 1 : Nat) : Int)
      omega
  · show m + lenL (framesM cL L' outs (fsOf X)).2 + cntM L' bo.fL ≤ cntP (l.take (j + 1))
    have f1 := frames_cnt (c := cL) rfl L' outs (fsOf X)
    have f2 : cntM L' outs + cntM L' bo.fL = cntM L' (insL ⟨1048576 + x1 % 65536 + j, ⟨#[]⟩, j⟩ X.fo.fL) := by rw [← cntM_app, r2]
    have f3 : cntM L' (insL ⟨1048576 + x1 % 65536 + j, ⟨#[]⟩, j⟩ X.fo.fL) = (if (nthI l (j : Int)).fA = true then 1 else 0) + cntM L' X.fo.fL := by
      rw [cntM_perm L' (insL_perm _ _)]
      show (if (findP L' (1048576 + x1 % 65536 + (j : Int))).fA = true then 1 else 0) + cntM L' X.fo.fL = _
      rw [← hL', findP_new fun c hc e => by have := h.cm c hc; omega]
    have f4 : cntM L' X.fo.fL = cntM X.fL X.fo.fL := cntM_cong fun u hu => by
      rw [← hL']
      exact findP_other (hpend u hu)
    have := h.ct
    rw [cnt_take hl]
    omega

theorem b_miss {x1 : Int} {ab : Nat → Bool} {l : List Pk} {j : Nat} {m : Int} {X : Te} (h : BOk x1 ab l j m X) (hl : j < l.length) (hab : ab j = true) (h0 : ab 0 = false) : BOk x1 ab l (j + 1) m X := by
  rcases h.fr with ⟨hj, _⟩ | ⟨_, ⟨last, q1, q2⟩, hb, hw, hJ⟩
  · rw [hj, h0] at hab; cases hab
  · refine ⟨.inr ⟨by omega, ⟨last, by omega, q2⟩, hb, hw, miss_jo hJ hab⟩, fun c hc => ?_, ?_⟩
    · have := h.cm c hc; omega
    · have := h.ct
      rw [cnt_take hl]
      split <;> omega

/-! ### The source that all of them come to -/
structure AOk (x1 : Int) (l : List Pk) (j : Nat) (w : Int) (X : Te) : Prop where
  st : ∃ (i k n ck keys : Int) (o : List Un) (L : List Came), X = inX 6 4 (x1 % 65536) j ck (refOf cL o w 0) L keys ∧ Str x1 j i k n (l.drop j) ∧ 0 ≤ i ∧ i ≤ j ∧ OpenOk (1048576 + x1 % 65536) j i k o ∧
    (ck = -1 ∨ ck = tick0 + 3000 * i ∨ ck = tick0 + 3000 * (i - 1)) ∧ (ck = -1 → i = 0) ∧ ∀ c ∈ L, c.fAt < 1048576 + x1 % 65536 + j
  ct : w = cntP (l.take j)

theorem a_put {x1 : Int} {l : List Pk} {j : Nat} {w : Int} {X : Te} (h : AOk x1 l j w X) (hj : j ≤ 100) (hl : j < l.length) :
    ∃ w', AOk x1 l (j + 1) w' (putM cL X (nthI l (j : Int)) j).1 ∧ w + lenL (putM cL X (nthI l (j : Int)) j).2.1 = w' ∧ (nthI l (j : Int)).ff = addI .u16 x1 (cvtI .u16 j) := by
  obtain ⟨i, k, n, ck, keys, o, L, rfl, hs, hi0, hij, ho, hck, hc0, hL⟩ := h.st
  have hw := h.ct
  have hw0 := cntP_le (l.take j)
  have hw1 : ((l.take j).length : Int) ≤ j := by
    rw [List.length_take]; omega
  rw [dropC hl] at hs
  obtain ⟨h0, h1, h2, hp, hnext⟩ := hs
  obtain ⟨o', w', keys', fs, hput, hres⟩ := a_step (keys := keys) (w := w) (L := L) rfl hj hi0 hij h0 h1 h2 ho (by omega) (by omega) hck hc0 hL (j : Int)
  rw [← hp] at hput
  rw [hput]
  have hmk : (nthI l (j : Int)).fA = eqI k (n - 1) := by rw [hp]; rfl
  have hct := cnt_take hl
  rw [hmk, eqI_d] at hct
  have hL' : ∀ c ∈ L ++ [(⟨1048576 + x1 % 65536 + j, nthI l (j : Int)⟩ : Came)], c.fAt < 1048576 + x1 % 65536 + ((j + 1 : Nat) : Int) := fun c hc => by
    rcases List.mem_append.1 hc with hc | hc
    · have := hL c hc; omega
    · rw [List.mem_singleton.1 hc]
      show 1048576 + x1 % 65536 + (j : Int) < _
      omega
  have hj1 : (j : Int) + 1 = ((j + 1 : Nat) : Int) := by omega
  refine ⟨w', ⟨?_, ?_⟩, ?_, by rw [hp]; rfl⟩
  · rcases hres with ⟨e1, e2, e3, e4⟩ | ⟨e1, e2, e3, e4⟩
    · rcases hnext with ⟨_, n', hn'⟩ | ⟨e, _⟩
      · rw [hj1] at hn'
        subst e4
        exact ⟨i + 1, 0, n', tick0 + 3000 * i, keys', [], _, rfl, hn', by omega, by omega, ⟨rfl, fun h => absurd h (by omega), by simp [sizeN]⟩, .inr (.inr (by omega)), fun h => by unfold tick0 at h; omega, hL'⟩
      · omega
    · rcases hnext with ⟨e, _⟩ | ⟨_, hn'⟩
      · omega
      · rw [hj1] at hn'
        exact ⟨i, k + 1, n, tick0 + 3000 * i, keys', o', _, rfl, hn', hi0, by omega, e4, .inr (.inl rfl), fun h => by unfold tick0 at h; omega, hL'⟩
  · rcases hres with ⟨e1, e2, e3, e4⟩ | ⟨e1, e2, e3, e4⟩
    · rw [hct, e2, decide_eq_true (by omega), if_pos rfl, hw]
    · rw [hct, e2, decide_eq_false (by omega), if_neg (by simp), hw]; omega
  · rcases hres with ⟨e1, e2, e3, e4⟩ | ⟨e1, e2, e3, e4⟩
    · rw [lenL_def, e3, e2]; rfl
    · rw [lenL_def, e3, e2]; simp
end Go.Proofs
