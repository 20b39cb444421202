/- A stream, packet by packet; all of it in its order; counting what is missing. No condition. -/
import Derived.Test.YtbijdlgffebenaaQ13
namespace Go.Proofs
open Go.Ab

/-! ### A stream, packet by packet -/
def Str (first : Int) : Int → Int → Int → Int → List Pk → Prop
  | _, _, k, _, [] => k = 0
  | j, i, k, n, p :: r => 0 ≤ k ∧ k < n ∧ n ≤ 4 ∧ p = pktM first i k n j ∧ ((k + 1 = n ∧ ∃ n', Str first (j + 1) (i + 1) 0 n' r) ∨ (k + 1 < n ∧ Str first (j + 1) i (k + 1) n r))
def pcsL (first i n : Int) : Nat → Int → Int → List Pk
  | 0, _, _ => []
  | f + 1, k, j => if k < n then pktM first i k n j :: pcsL first i n f (k + 1) (j + 1) else []
theorem pict_suf (first i n : Int) : ∀ (f : Nat) (k : Int) (acc : List Pk), pictL first i n f k acc = acc ++ pcsL first i n f k (lenL acc)
  | 0, _, acc => by simp [pictL, pcsL]
  | f + 1, k, acc => by
    unfold pictL pcsL
    split
    · rw [pict_suf]
      have : lenL (acc ++ [pktM first i k n (lenL acc)]) = lenL acc + 1 := by simp [lenL]
      rw [this]; simp
    · simp
theorem pcsL_len (first i n : Int) : ∀ (f : Nat) (k j : Int), k ≤ n → n - k ≤ f → ((pcsL first i n f k j).length : Int) = n - k
  | 0, k, j, h1, h2 => by simp [pcsL]; omega
  | f + 1, k, j, h1, h2 => by
    unfold pcsL
    split
    · have := pcsL_len first i n f (k + 1) (j + 1) (by omega) (by omega)
      simp only [List.length_cons]; omega
    · simp; omega
theorem str_pic (first i n : Int) (hn : n ≤ 4) (R : List Pk) : ∀ (f : Nat) (k j : Int), 0 ≤ k → k < n → n - k ≤ f → (∃ n', Str first (j + (n - k)) (i + 1) 0 n' R) → Str first j i k n (pcsL first i n f k j ++ R)
  | 0, k, j, h0, h1, h2, _ => by omega
  | f + 1, k, j, h0, h1, h2, hR => by
    unfold pcsL
    rw [if_pos h1, List.cons_append]
    refine ⟨h0, h1, hn, rfl, ?_⟩
    by_cases hk : k + 1 = n
    · left
      refine ⟨hk, ?_⟩
      have he : pcsL first i n f (k + 1) (j + 1) = [] := by
        cases f with
        | zero => rfl
        | succ f => unfold pcsL; rw [if_neg (by omega)]
      rw [he, List.nil_append]
      have : j + (n - k) = j + 1 := by omega
      rw [this] at hR
      exact hR
    · right
      refine ⟨by omega, str_pic first i n hn R f (k + 1) (j + 1) (by omega) (by omega) (by omega) ?_⟩
      have : j + 1 + (n - (k + 1)) = j + (n - k) := by omega
      rw [this]; exact hR
theorem stream_str (first : Int) (cuts : List Int) : ∀ (f : Nat) (i : Int) (acc : List Pk), ∃ R, streamL first cuts f i acc = acc ++ R ∧ ∃ n, Str first (lenL acc) i 0 n R
  | 0, i, acc => ⟨[], by simp [streamL], 0, rfl⟩
  | f + 1, i, acc => by
    unfold streamL
    split
    · obtain ⟨R, h1, n', h2⟩ := stream_str first cuts f (i + 1) (pictL first i (1 + nthI cuts i % 4) 4 0 acc)
      rw [h1]
      rw [pict_suf] at h2 ⊢
      refine ⟨pcsL first i (1 + nthI cuts i % 4) 4 0 (lenL acc) ++ R, by simp, 1 + nthI cuts i % 4, ?_⟩
      refine str_pic first i _ (by omega) R 4 0 (lenL acc) (by omega) (by omega) (by omega) ⟨n', ?_⟩
      have hl := pcsL_len first i (1 + nthI cuts i % 4) 4 0 (lenL acc) (by omega) (by omega)
      have : lenL (acc ++ pcsL first i (1 + nthI cuts i % 4) 4 0 (lenL acc)) = lenL acc + (1 + nthI cuts i % 4 - 0) := by
        simp only [lenL_def, List.length_append, Int.natCast_add] at hl ⊢
        omega
      rw [this] at h2
      exact h2
    · exact ⟨[], by simp, 0, rfl⟩

/-! ### All of it, in its order -/
def cL : Tp := ⟨true, 400, 8, 4⟩
def tick0 : Int := 68719476736
structure OpenOk (b j i k : Int) (o : List Un) : Prop where
  len : lenL o = k
  last : 0 < k → (nthI o (k - 1)).fAt = b + j - 1 ∧ (nthI o (k - 1)).fQ = tick0 + 3000 * i
  tx : sizeN o ≤ 4 * k

theorem unit_of {c : Tp} {ck : Int} {L : List Came} {at_ now : Int} {first i k n j : Int} (hv : c.fu = true) (hf : findP L at_ = pktM first i k n j) (hi : 0 ≤ i) (hi2 : i ≤ 1000) (hck : ck = -1 ∨ (ck = tick0 + 3000 * i) ∨ (ck = tick0 + 3000 * (i - 1))) (h0 : ck = -1 → i = 0) :
    (unitM c.fu ck L ⟨at_, ⟨#[]⟩, now⟩).1.fAt = at_ ∧ (unitM c.fu ck L ⟨at_, ⟨#[]⟩, now⟩).1.fQ = tick0 + 3000 * i ∧ (unitM c.fu ck L ⟨at_, ⟨#[]⟩, now⟩).1.fA = eqI k (n - 1) ∧
      (unitM c.fu ck L ⟨at_, ⟨#[]⟩, now⟩).1.fy = eqI k 0 ∧ lenS (unitM c.fu ck L ⟨at_, ⟨#[]⟩, now⟩).1.fT = 4 ∧ (unitM c.fu ck L ⟨at_, ⟨#[]⟩, now⟩).2 = tick0 + 3000 * i := by
  have hp : (pktM first i k n j).fF = payM i k := rfl
  have hl : lenS (payM i k) = 4 := pay_len i k
  have hb : idxS (payM i k) 0 = if k = 0 then 16 else 0 := by
    unfold payM
    rw [eqI_d]
    by_cases h : k = 0
    · rw [decide_eq_true h, if_pos h]; rfl
    · rw [decide_eq_false h, if_neg h]; rfl
  have hb2 : idxS (payM i k) 0 ≤ 127 := by rw [hb]; split <;> omega
  have ht : (pktM first i k n j).fQ = 3000 * i := by
    show IntKind.u32.wrap (IntKind.i64.wrap (3000 * i)) = _
    rw [Lu (by omega) (by omega), wrapU32]; omega
  have hclk : clkM ck (3000 * i) = (tick0 + 3000 * i, tick0 + 3000 * i) := by
    unfold clkM
    unfold tick0 at hck ⊢
    rcases hck with h | h | h
    · have hi0 := h0 h
      subst hi0
      rw [h, if_pos (by decide)]
      rfl
    · rw [h, if_neg (by omega)]
      have hd : distS 4294967296 (68719476736 + 3000 * i) (3000 * i) = 0 := by
        unfold distS
        have : (3000 * i - (68719476736 + 3000 * i) % 4294967296) % 4294967296 = 0 := by omega
        rw [this, if_pos (by decide)]
      rw [hd, addI_n (by omega) (by omega)]
      simp
    · rw [h, if_neg (by omega)]
      have hd : distS 4294967296 (68719476736 + 3000 * (i - 1)) (3000 * i) = 3000 := by
        unfold distS
        have : (3000 * i - (68719476736 + 3000 * (i - 1)) % 4294967296) % 4294967296 = 3000 := by omega
        rw [this, if_pos (by decide)]
      rw [hd, addI_n (by omega) (by omega)]
      refine Prod.ext ?_ ?_
      · simp only; omega
      · simp only; omega
  unfold unitM
  simp only
  rw [hf, hp, ht, hclk, hl, pars_plain (by rw [hl]; decide) hb2, hv]
  refine ⟨?_, ?_, ?_, ?_, ?_, ?_⟩
  · first | trivial | rfl
  · first | trivial | rfl
  · show ((pktM first i k n j).fA && true) = _
    rw [Bool.and_true]; rfl
  · rw [hb, eqI_d]
    by_cases h : k = 0
    · rw [if_pos h, decide_eq_true h]; rfl
    · rw [if_neg h, decide_eq_false h]; rfl
  · first | trivial | exact hl
  · first | trivial | rfl
def inX (mo wa f : Int) (j : Nat) (ck : Int) (m : Tq) (L : List Came) (keys : Int) : Te :=
  .mk (if j = 0 then ⟨false, 0, -1, 0, 0⟩ else ⟨true, 1048575 + f + j, -1, 0, 0⟩) ck ⟨mo, wa, decide (0 < j), if j = 0 then 0 else 1048576 + f + j, [], 0⟩ m L 0 keys
theorem in_seq (mo wa f : Int) (j : Nat) (ck : Int) (m : Tq) (L : List Came) (keys x1 : Int) (hf : f = x1 % 65536) :
    seqM (inX mo wa f j ck m L keys).ff (addI .u16 x1 (cvtI .u16 j)) = (⟨true, 1048575 + f + ((j + 1 : Nat) : Int), -1, 0, 0⟩, 1048576 + f + j, true) := by
  have hn : addI .u16 x1 (cvtI .u16 j) = (x1 + j) % 65536 := by unfold addI cvtI; rw [wrapU16, wrapU16]; omega
  rw [hn]
  unfold inX
  simp only
  by_cases h0 : j = 0
  · subst h0
    rw [if_pos rfl]
    unfold seqM
    rw [if_pos rfl]
    have : (x1 + ((0 : Nat) : Int)) % 65536 = f := by omega
    rw [this]
    refine Prod.ext ?_ (Prod.ext ?_ rfl)
    · show (⟨true, 1048576 + f, -1, 0, 0⟩ : Sq) = _
      congr 1; omega
    · show 1048576 + f = 1048576 + f + ((0 : Nat) : Int); omega
  · rw [if_neg h0]
    have hd : nearS (1048575 + f + j) ((x1 + j) % 65536) = 1048576 + f + j := by
      unfold nearS distS
      have : ((x1 + j) % 65536 - (1048575 + f + j) % 65536) % 65536 = 1 := by omega
      rw [this, if_pos (by decide)]; omega
    unfold seqM
    rw [if_neg (by simp)]
    simp only
    rw [hd, if_pos ⟨by omega, by omega⟩]
    refine Prod.ext ?_ rfl
    show (⟨true, max (1048575 + f + (j : Int)) (1048576 + f + j), -1, 0, 0⟩ : Sq) = _
    congr 1; omega
theorem in_order (mo wa f : Int) (j : Nat) (ck : Int) (m : Tq) (L : List Came) (keys now : Int) :
    putS (inX mo wa f j ck m L keys).fo ⟨1048576 + f + j, ⟨#[]⟩, now⟩ = (⟨mo, wa, true, 1048576 + f + ((j + 1 : Nat) : Int), [], 0⟩, [⟨1048576 + f + j, ⟨#[]⟩, now⟩], 0) := by
  have hb : begS (inX mo wa f j ck m L keys).fo ⟨1048576 + f + j, ⟨#[]⟩, now⟩ = ⟨mo, wa, true, 1048576 + f + j, [], 0⟩ := by
    unfold begS inX
    simp only
    by_cases h0 : j = 0
    · subst h0
      rw [if_neg (by decide)]
    · rw [if_pos (by simp; omega), if_neg h0]
      congr 1
      simp; omega
  unfold putS
  rw [hb]
  simp only
  rw [if_neg (by omega)]
  have hh : hasL (1048576 + f + j) (inX mo wa f j ck m L keys).fo.fL = false := rfl
  rw [hh, if_neg (by simp)]
  have hr : runS (addS ⟨mo, wa, true, 1048576 + f + j, [], 0⟩ ⟨1048576 + f + j, ⟨#[]⟩, now⟩) = (⟨mo, wa, true, 1048576 + f + j + 1, [], 0⟩, [⟨1048576 + f + j, ⟨#[]⟩, now⟩]) := by
    unfold runS addS insL
    simp only
    have hq : runL (1048576 + f + j) [⟨1048576 + f + j, ⟨#[]⟩, now⟩] = ([⟨1048576 + f + j, ⟨#[]⟩, now⟩], 1048576 + f + j + 1, []) := by
      rw [runL_t (t := ⟨1048576 + f + (j : Int), ⟨#[]⟩, now⟩) (show _ = _ from rfl)]; rfl
    rw [hq]
  rw [hr]
  simp only [List.length_nil, whileS, List.append_nil]
  have : 1048576 + f + (j : Int) + 1 = 1048576 + f + ((j + 1 : Nat) : Int) := by omega
  rw [this]

theorem put_in {B j i k n w : Int} {o : List Un} {u : Un} (hk0 : 0 ≤ k) (hkn : k < n) (hn4 : n ≤ 4) (hB : 0 ≤ B) (hB2 : B ≤ 2000000) (hj0 : 0 ≤ j) (hj : j ≤ 1000) (ho : OpenOk B j i k o) (hw0 : 0 ≤ w) (hw : w ≤ 1000)
    (u1 : u.fAt = B + j) (u2 : u.fQ = tick0 + 3000 * i) (u3 : u.fA = eqI k (n - 1)) (u4 : u.fy = eqI k 0) (u5 : lenS u.fT = 4) :
    putP cL o w 0 u = (if k + 1 = n then ⟨o ++ [u], true, [], w + 1, 0⟩ else ⟨[], false, o ++ [u], w, 0⟩) ∧ lenL (o ++ [u]) = k + 1 ∧ OpenOk B (j + 1) i (k + 1) (o ++ [u]) := by
  have hl1 : lenL (o ++ [u]) = k + 1 := by
    have := ho.len
    simp only [lenL_def, List.length_append, List.length_cons, List.length_nil] at this ⊢
    omega
  have hs1 : sizeN (o ++ [u]) ≤ 4 * (k + 1) := by
    rw [sizeN_app]
    have := ho.tx
    have e : sizeN [u] = lenS u.fT := by simp [sizeN]
    rw [e, u5]; omega
  have hw1 : addI .i64 w 1 = w + 1 := addI_n (by omega) (by omega)
  have hC : putC cL o w 0 u = if k + 1 = n then ⟨o ++ [u], true, [], w + 1, 0⟩ else ⟨[], false, o ++ [u], w, 0⟩ := by
    unfold putC
    have c1 : ¬ (cL.fj < lenL (o ++ [u]) ∨ cL.fv < sizeN (o ++ [u])) := by
      rintro (h | h)
      · have h' : (8 : Int) < lenL (o ++ [u]) := h
        omega
      · have h' : (400 : Int) < sizeN (o ++ [u]) := h
        omega
    rw [if_neg c1, u3, eqI_d, hw1]
    by_cases hk : k + 1 = n
    · have e : decide (k = n - 1) = true := decide_eq_true (by omega)
      rw [if_pos hk, e, if_neg (fun h => by cases h.2)]
    · have e : decide (k = n - 1) = false := decide_eq_false (by omega)
      rw [if_neg hk, e, if_pos ⟨rfl, rfl⟩]
  refine ⟨?_, hl1, hl1, fun _ => ?_, hs1⟩
  · unfold putP
    by_cases hk : k = 0
    · have h0 : o = [] := by
        have := ho.len
        rw [lenL_def] at this
        exact List.eq_nil_of_length_eq_zero (by omega)
      have hst : u.fy = true := by rw [u4, eqI_d, decide_eq_true hk]
      have hfol : folB o u = false := by rw [h0]; rfl
      rw [hfol, if_neg (by simp), hst, if_neg (fun h => by cases h.2)]
      have : addI .i64 0 (lenL o) = 0 := by rw [h0]; decide
      rw [this, ← hC, h0]
    · have hst : u.fy = false := by rw [u4, eqI_d, decide_eq_false hk]
      obtain ⟨l1, l2⟩ := ho.last (by omega)
      have hfol : folB o u = true := by
        unfold folB
        have e1 : addI .i64 (B + j - 1) 1 = B + j := by rw [addI_n (by omega) (by omega)]; omega
        have e2 : subI .i64 k 1 = k - 1 := subI_n (by omega) (by omega)
        rw [ho.len, eqI_d, decide_eq_false hk, cond_false, e2, l1, l2, u1, u2, hst, e1, eqI_t rfl, eqI_t rfl]
        rfl
      rw [if_pos hfol, hC]
  · have e : k + 1 - 1 = lenL o := by rw [ho.len]; omega
    rw [e, nth_app_eq, u1, u2]
    exact ⟨by omega, rfl⟩

theorem frames_one {c : Tp} {L : List Came} {t : Thg} {X : Te} {u : Un} {ck : Int} {r : Put3} (hu : unitM c.fu X.fh L t = (u, ck)) (hp : putP c X.fc.fw X.fc.fz X.fc.fe u = r) :
    ∃ keys, framesM c L [t] (fsOf X) = (⟨ck, r.o, r.w, r.l, keys⟩, if 0 < lenL r.out then [r.out] else []) := by
  unfold framesM framesM stepM
  simp only
  have e1 : (fsOf X).ck = X.fh := rfl
  have e2 : (fsOf X).o = X.fc.fw := rfl
  have e3 : (fsOf X).w = X.fc.fz := rfl
  have e4 : (fsOf X).l = X.fc.fe := rfl
  rw [e1, e2, e3, e4, hu]
  simp only
  rw [hp]
  exact ⟨_, rfl⟩

theorem in_src (f : Int) (j : Nat) (ck w : Int) (o : List Un) (L : List Came) (keys : Int) (p : Came) (ck2 w2 keys2 : Int) (o2 : List Un) :
    srcF (.mk ⟨true, 1048575 + f + ((j + 1 : Nat) : Int), -1, 0, 0⟩ (inX 6 4 f j ck (refOf cL o w 0) L keys).fh ⟨6, 4, true, 1048576 + f + ((j + 1 : Nat) : Int), [], 0⟩ (inX 6 4 f j ck (refOf cL o w 0) L keys).fc ((inX 6 4 f j ck (refOf cL o w 0) L keys).fL ++ [p]) (inX 6 4 f j ck (refOf cL o w 0) L keys).fp (inX 6 4 f j ck (refOf cL o w 0) L keys).fm) cL ⟨ck2, o2, w2, 0, keys2⟩ =
      inX 6 4 f (j + 1) ck2 (refOf cL o2 w2 0) (L ++ [p]) keys2 := by
  unfold srcF inX
  have h0 : ¬ (j + 1 = 0) := by omega
  have h1 : decide (0 < j + 1) = true := decide_eq_true (by omega)
  rw [if_neg h0, if_neg h0, h1]

theorem a_step {f : Int} {j : Nat} {ck keys w : Int} {L : List Came} {x1 i k n : Int} {o : List Un} (hf : f = x1 % 65536) (hj : j ≤ 100) (hi0 : 0 ≤ i) (hij : i ≤ j) (hk0 : 0 ≤ k) (hkn : k < n) (hn4 : n ≤ 4)
    (ho : OpenOk (1048576 + f) j i k o) (hw0 : 0 ≤ w) (hw : w ≤ 1000) (hck : ck = -1 ∨ (ck = tick0 + 3000 * i) ∨ (ck = tick0 + 3000 * (i - 1))) (hc0 : ck = -1 → i = 0) (hL : ∀ m ∈ L, m.fAt < 1048576 + f + j) (now : Int) :
    ∃ o' w' keys' fs, putM cL (inX 6 4 f j ck (refOf cL o w 0) L keys) (pktM x1 i k n j) now = (inX 6 4 f (j + 1) (tick0 + 3000 * i) (refOf cL o' w' 0) (L ++ [⟨1048576 + f + j, pktM x1 i k n j⟩]) keys', fs, 0) ∧
      ((k + 1 = n ∧ w' = w + 1 ∧ fs.length = 1 ∧ o' = []) ∨ (k + 1 < n ∧ w' = w ∧ fs = [] ∧ OpenOk (1048576 + f) ((j + 1 : Nat) : Int) i (k + 1) o')) := by
  have h1 := in_seq 6 4 f j ck (refOf cL o w 0) L keys x1 hf
  have h2 := in_order 6 4 f j ck (refOf cL o w 0) L keys now
  have hnew : findP (L ++ [(⟨1048576 + f + j, pktM x1 i k n j⟩ : Came)]) (1048576 + f + j) = pktM x1 i k n j := findP_new fun m hm e => by have := hL m hm; omega
  obtain ⟨u1, u2, u3, u4, u5, u6⟩ := unit_of (c := cL) (ck := ck) (now := now) (show cL.fu = true from rfl) hnew hi0 (by omega) hck hc0
  generalize hu : (unitM cL.fu ck (L ++ [(⟨1048576 + f + j, pktM x1 i k n j⟩ : Came)]) ⟨1048576 + f + j, ⟨#[]⟩, now⟩) = uu at u1 u2 u3 u4 u5 u6
  obtain ⟨u, ck2⟩ := uu
  simp only at u1 u2 u3 u4 u5 u6
  subst u6
  obtain ⟨p1, p2, p3⟩ := put_in hk0 hkn hn4 (by omega) (by omega) (by omega) (by omega) ho hw0 hw u1 u2 u3 u4 u5
  have hj1 : (j : Int) + 1 = ((j + 1 : Nat) : Int) := by omega
  rw [hj1] at p3
  obtain ⟨keys', hfr⟩ := frames_one (X := inX 6 4 f j ck (refOf cL o w 0) L keys) hu p1
  have h1' : seqM (inX 6 4 f j ck (refOf cL o w 0) L keys).ff (pktM x1 i k n j).ff = _ := h1
  have hfin := put_taken (X := inX 6 4 f j ck (refOf cL o w 0) L keys) (p := pktM x1 i k n j) h1' h2 hfr
  by_cases hk : k + 1 = n
  · simp only [if_pos hk] at hfin
    have hp : 0 < lenL (o ++ [u]) := by rw [p2]; omega
    rw [if_pos hp, in_src] at hfin
    exact ⟨[], w + 1, keys', [o ++ [u]], hfin, .inl ⟨hk, rfl, rfl, rfl⟩⟩
  · simp only [if_neg hk] at hfin
    have hp : ¬ 0 < lenL ([] : List Un) := by decide
    rw [if_neg hp, in_src] at hfin
    exact ⟨o ++ [u], w, keys', [], hfin, .inr ⟨by omega, rfl, rfl, p3⟩⟩
end Go.Proofs
