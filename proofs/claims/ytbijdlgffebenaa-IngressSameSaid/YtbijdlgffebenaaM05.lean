/- The answers that the document fixes; the law IngressMay. No condition. -/
import Derived.Test.YtbijdlgffebenaaJi
import Derived.Test.YtbijdlgffebenaaM12
section
namespace Go.Proofs
open Go.Ab

def cA : FrameConfig := ⟨true, 400, 2, 9⟩
def pA0 : Pk := pktM 5 0 0 2 0
def pA1 : Pk := pktM 5 0 1 2 1
def tA0 : Thg := ⟨1048581, ⟨#[]⟩, 0⟩
def tA1 : Thg := ⟨1048582, ⟨#[]⟩, 0⟩
def LA1 : List Came := [⟨1048581, pA0⟩]
def LA2 : List Came := [⟨1048581, pA0⟩, ⟨1048582, pA1⟩]
def uA0 : Un := .mk 1048581 68719476736 false true true (payM 0 0) 0
def uA1 : Un := .mk 1048582 68719476736 true false false (payM 0 1) 0
def xA1 : Antiphonref11Source := .mk ⟨true, 1048581, -1, 0, 0⟩ 68719476736 ⟨10, 9, true, 1048582, [], 0⟩ (refOf cA [uA0] 0 0) LA1 0 0
def xA2 : Antiphonref11Source := .mk ⟨true, 1048582, -1, 0, 0⟩ 68719476736 ⟨10, 9, true, 1048583, [], 0⟩ (refOf cA [] 1 0) LA2 0 1
def xA3 : Antiphonref11Source := .mk ⟨true, 1048582, -1, 0, 0⟩ 68719476736 ⟨10, 9, true, 1048583, [], 0⟩ (refOf cA [] 1 0) LA2 1 1

theorem unitA0 : unitM true (-1) LA1 tA0 = (uA0, 68719476736) := by
  have hl : 1 ≤ lenS (payM 0 0) := by rw [pay_len]; decide
  have hi : idxS (payM 0 0) 0 = 16 := by kernel_rfl
  have hf : findP LA1 tA0.fAt = pA0 := by kernel_rfl
  unfold unitM
  simp only
  rw [hf, show pA0.fPayload = payM 0 0 from rfl, pars_plain hl (by rw [hi]; decide), hi]
  show _ = _
  kernel_rfl
theorem unitA1 : unitM true 68719476736 LA2 tA1 = (uA1, 68719476736) := by
  have hl : 1 ≤ lenS (payM 0 1) := by rw [pay_len]; decide
  have hi : idxS (payM 0 1) 0 = 0 := by kernel_rfl
  have hf : findP LA2 tA1.fAt = pA1 := by kernel_rfl
  unfold unitM
  simp only
  rw [hf, show pA1.fPayload = payM 0 1 from rfl, pars_plain hl (by rw [hi]; decide), hi]
  show _ = _
  kernel_rfl

theorem put_taken {c : FrameConfig} {X : Antiphonref11Source} {p : Pk} {now : Int} {q : Sq} {at_ : Int} {b : RBf} {o : List Thg} {z : FS × List (List Un)} (h1 : seqM X.fSeq p.fSeq = (q, at_, true)) (h2 : putS X.fOrder ⟨at_, ⟨#[]⟩, now⟩ = (b, o, 0))
    (h3 : framesM c (X.fL ++ [⟨at_, p⟩]) o (fsOf X) = z) : putM c X p now = (srcF (.mk q X.fClock b X.fMaker (X.fL ++ [⟨at_, p⟩]) X.fBad X.fKeys) c z.1, z.2, 0) := by
  unfold putM
  simp only
  rw [h1]
  simp only
  rw [if_neg (by simp), h2]
  simp only
  rw [if_neg (by simp), h3]
theorem put_not {c : FrameConfig} {X : Antiphonref11Source} {p : Pk} {now : Int} {q : Sq} {at_ e : Int} {b : RBf} {o : List Thg} (h1 : seqM X.fSeq p.fSeq = (q, at_, true)) (h2 : putS X.fOrder ⟨at_, ⟨#[]⟩, now⟩ = (b, o, e)) (he : e ≠ 0) :
    putM c X p now = (.mk q X.fClock b X.fMaker X.fL (addI .i64 X.fBad 1) X.fKeys, [], e) := by
  unfold putM
  simp only
  rw [h1]
  simp only
  rw [if_neg (by simp), h2]
  simp only
  rw [if_pos he]

theorem put1A : putM cA (ref0 true 10 9 2) pA0 0 = (xA1, [], 0) := by
  have h3 : framesM cA LA1 [tA0] (fsOf (ref0 true 10 9 2)) = (⟨68719476736, [uA0], 0, 0, 0⟩, []) := by
    unfold framesM stepM
    simp only
    rw [show (fsOf (ref0 true 10 9 2)).ck = -1 from rfl, show cA.fVideo = true from rfl, unitA0]
    show _ = _
    kernel_rfl
  rw [put_taken (q := ⟨true, 1048581, -1, 0, 0⟩) (at_ := 1048581) (b := ⟨10, 9, true, 1048582, [], 0⟩) (o := [tA0]) (by kernel_rfl) (by kernel_rfl) h3]
  show _ = _
  kernel_rfl
theorem put2A : putM cA xA1 pA1 0 = (xA2, [[uA0, uA1]], 0) := by
  have h3 : framesM cA LA2 [tA1] (fsOf xA1) = (⟨68719476736, [], 1, 0, 1⟩, [[uA0, uA1]]) := by
    unfold framesM stepM
    simp only
    rw [show (fsOf xA1).ck = 68719476736 from rfl, show cA.fVideo = true from rfl, unitA1]
    show _ = _
    kernel_rfl
  rw [put_taken (q := ⟨true, 1048582, -1, 0, 0⟩) (at_ := 1048582) (b := ⟨10, 9, true, 1048583, [], 0⟩) (o := [tA1]) (by kernel_rfl) (by kernel_rfl) h3]
  show _ = _
  kernel_rfl
theorem put3A : putM cA xA2 pA0 0 = (xA3, [], 13) := by
  rw [put_not (q := ⟨true, 1048582, -1, 0, 0⟩) (at_ := 1048581) (b := ⟨10, 9, true, 1048583, [], 0⟩) (o := []) (e := 13) (by kernel_rfl) (by kernel_rfl) (by decide)]
  kernel_rfl

theorem awake_ok11 : gLaw11Awake = some true := by
  unfold gLaw11Awake
  have hc : gLaw11Config true 9 9 9 = some (cfgM true 10 9 2) := by
    unfold gLaw11Config
    rw [need_t (show NonZ 40 by decide)]
    kernel_rfl
  have hs : streamL 5 [1] 57 0 [] = [pA0, pA1] := by kernel_rfl
  have c0 : SOk (ref0 true 10 9 2) cA 2000000 0 := ok0 (by decide) (by decide) (by decide) (by decide)
  obtain ⟨s1, o1, r1⟩ := oput_src (rel0 true 10 9 2) c0 (p := pA0) (pkt_ok _ _ _ _ _) (now := 0) (by decide) (by decide) (by decide) (by decide)
  have c1 := put_sok c0 (p := pA0) (pkt_ok _ _ _ _ _) (now := 0) (by decide) (by decide) (by decide) (by decide)
  rw [show (⟨true, 400, 2, 9⟩ : FrameConfig) = cA from rfl, put1A] at o1 r1
  rw [put1A] at c1
  obtain ⟨s2, o2, r2⟩ := oput_src r1 c1 (p := pA1) (pkt_ok _ _ _ _ _) (now := 0) (by decide) (by decide) (by decide) (by decide)
  have c2 := put_sok c1 (p := pA1) (pkt_ok _ _ _ _ _) (now := 0) (by decide) (by decide) (by decide) (by decide)
  rw [put2A] at o2 r2 c2
  obtain ⟨s3, o3, r3⟩ := oput_src r2 c2 (p := pA0) (pkt_ok _ _ _ _ _) (now := 0) (by decide) (by decide) (by decide) (by decide)
  rw [put3A] at o3 r3
  have hb : s3.fBad = 1 := r3.bad
  have n0 : nthI [pA0, pA1] 0 = pA0 := rfl
  have n1 : nthI [pA0, pA1] 1 = pA1 := rfl
  have l2 : lenL [pA0, pA1] = 2 := rfl
  have x0 : pickB (pickB (neI 0 0) true false) true false = false := rfl
  rw [hc, bind_so, new_src (by decide) (by decide) (by decide) (by decide) (by decide) (by decide), bind_so]
  dsimp only
  rw [optC_some, x0, cond_false, stream_eq, hs, bind_so, l2, n0, n1, need_t (show InB 0 2 by decide), o1, bind_so]
  dsimp only
  rw [need_t (show InB 1 2 by decide), o2, bind_so]
  dsimp only
  rw [need_t (show InB 0 2 by decide), o3, bind_so]
  dsimp only
  have hk : gFrameFrameKey ⟨[uA0, uA1]⟩ = some true := by rw [key_of]; rfl
  have hbad : gIngressSourceBad s3 = some 1 := by unfold gIngressSourceBad; rw [hb]
  have f1 : ([[uA0, uA1]].map FrameFrame.mk) = [⟨[uA0, uA1]⟩] := rfl
  have f0 : (([] : List (List Un)).map FrameFrame.mk) = [] := rfl
  have m1 : lenL [(⟨[uA0, uA1]⟩ : FrameFrame)] = 1 := rfl
  have m0 : nthI [(⟨[uA0, uA1]⟩ : FrameFrame)] 0 = ⟨[uA0, uA1]⟩ := rfl
  rw [f1, f0, m1, m0, hk, hbad]
  simp only [Option.isSome_some, under_true, need_true, getD_so]
  rw [need_t (under_of (show InB 0 1 by decide)), need_t (under_of (show InB 0 1 by decide))]
  rfl

end Go.Proofs
end
section
namespace Go.Proofs
open Go.Ab

/-! ### A stream, packet by packet -/
def pcsL (first i n : Int) : Nat → Int → Int → List Pk
  | 0, _, _ => []
  | f + 1, k, j => if k < n then pktM first i k n j :: pcsL first i n f (k + 1) (j + 1) else []
theorem pict_suf (first i n : Int) : ∀ (f : Nat) (k : Int) (acc : List Pk), pictL first i n f k acc = acc ++ pcsL first i n f k (lenL acc)
  | 0, _, acc => by simp [pictL, pcsL]
  | f + 1, k, acc => by
    unfold pictL pcsL
    split
    · rw [pict_suf]
      have : lenL (acc ++ [pktM first i k n (lenL acc)]) = lenL acc + 1 := by simp [lenL]
      rw [this]; simp
    · simp
theorem pcsL_len (first i n : Int) : ∀ (f : Nat) (k j : Int), k ≤ n → n - k ≤ f → ((pcsL first i n f k j).length : Int) = n - k
  | 0, k, j, h1, h2 => by simp [pcsL]; omega
  | f + 1, k, j, h1, h2 => by
    unfold pcsL
    split
    · have := pcsL_len first i n f (k + 1) (j + 1) (by omega) (by omega)
      simp only [List.length_cons]; omega
    · simp; omega
/-! ### All of it, in its order -/
def cL : FrameConfig := ⟨true, 400, 8, 4⟩
def tick0 : Int := 68719476736
/-- What is begun: k packets of picture i, the last of which is packet j - 1. -/
structure OpenOk (b j i k : Int) (o : List Un) : Prop where
  len : lenL o = k
  last : 0 < k → (nthI o (k - 1)).fAt = b + j - 1 ∧ (nthI o (k - 1)).fTime = tick0 + 3000 * i
  tx : sizeN o ≤ 4 * k

theorem unit_of {c : FrameConfig} {ck : Int} {L : List Came} {at_ now : Int} {first i k n j : Int} (hv : c.fVideo = true) (hf : findP L at_ = pktM first i k n j) (hi : 0 ≤ i) (hi2 : i ≤ 1000) (hck : ck = -1 ∨ (ck = tick0 + 3000 * i) ∨ (ck = tick0 + 3000 * (i - 1))) (h0 : ck = -1 → i = 0) :
    (unitM c.fVideo ck L ⟨at_, ⟨#[]⟩, now⟩).1.fAt = at_ ∧ (unitM c.fVideo ck L ⟨at_, ⟨#[]⟩, now⟩).1.fTime = tick0 + 3000 * i ∧ (unitM c.fVideo ck L ⟨at_, ⟨#[]⟩, now⟩).1.fMarker = eqI k (n - 1) ∧
      (unitM c.fVideo ck L ⟨at_, ⟨#[]⟩, now⟩).1.fStart = eqI k 0 ∧ lenS (unitM c.fVideo ck L ⟨at_, ⟨#[]⟩, now⟩).1.fText = 4 ∧ (unitM c.fVideo ck L ⟨at_, ⟨#[]⟩, now⟩).2 = tick0 + 3000 * i := by
  have hp : (pktM first i k n j).fPayload = payM i k := rfl
  have hl : lenS (payM i k) = 4 := pay_len i k
  have hb : idxS (payM i k) 0 = if k = 0 then 16 else 0 := by
    unfold payM
    rw [eqI_d]
    by_cases h : k = 0
    · rw [decide_eq_true h, if_pos h]; rfl
    · rw [decide_eq_false h, if_neg h]; rfl
  have hb2 : idxS (payM i k) 0 ≤ 127 := by rw [hb]; split <;> omega
  have ht : (pktM first i k n j).fTime = 3000 * i := by
    show IntKind.u32.wrap (IntKind.i64.wrap (3000 * i)) = _
    rw [wrap64_of (by omega) (by omega), wrapU32]; omega
  have hclk : clkM ck (3000 * i) = (tick0 + 3000 * i, tick0 + 3000 * i) := by
    unfold clkM
    unfold tick0 at hck ⊢
    rcases hck with h | h | h
    · have hi0 := h0 h
      subst hi0
      rw [h, if_pos (by decide)]
      rfl
    · rw [h, if_neg (by omega)]
      have hd : distS 4294967296 (68719476736 + 3000 * i) (3000 * i) = 0 := by
        unfold distS
        have : (3000 * i - (68719476736 + 3000 * i) % 4294967296) % 4294967296 = 0 := by omega
        rw [this, if_pos (by decide)]
      rw [hd, addI_n (by omega) (by omega)]
      simp
    · rw [h, if_neg (by omega)]
      have hd : distS 4294967296 (68719476736 + 3000 * (i - 1)) (3000 * i) = 3000 := by
        unfold distS
        have : (3000 * i - (68719476736 + 3000 * (i - 1)) % 4294967296) % 4294967296 = 3000 := by omega
        rw [this, if_pos (by decide)]
      rw [hd, addI_n (by omega) (by omega)]
      refine Prod.ext ?_ ?_
      · simp only; omega
      · simp only; omega
  unfold unitM
  simp only
  rw [hf, hp, ht, hclk, hl, pars_plain (by rw [hl]; decide) hb2, hv]
  refine ⟨?_, ?_, ?_, ?_, ?_, ?_⟩
  · first | trivial | rfl
  · first | trivial | rfl
  · show ((pktM first i k n j).fMarker && true) = _
    rw [Bool.and_true]; rfl
  · rw [hb, eqI_d]
    by_cases h : k = 0
    · rw [if_pos h, decide_eq_true h]; rfl
    · rw [if_neg h, decide_eq_false h]; rfl
  · first | trivial | exact hl
  · first | trivial | rfl

theorem put_in {B j i k n w : Int} {o : List Un} {u : Un} (hk0 : 0 ≤ k) (hkn : k < n) (hn4 : n ≤ 4) (hB : 0 ≤ B) (hB2 : B ≤ 2000000) (hj0 : 0 ≤ j) (hj : j ≤ 1000) (ho : OpenOk B j i k o) (hw0 : 0 ≤ w) (hw : w ≤ 1000)
    (u1 : u.fAt = B + j) (u2 : u.fTime = tick0 + 3000 * i) (u3 : u.fMarker = eqI k (n - 1)) (u4 : u.fStart = eqI k 0) (u5 : lenS u.fText = 4) :
    putP cL o w 0 u = (if k + 1 = n then ⟨o ++ [u], true, [], w + 1, 0⟩ else ⟨[], false, o ++ [u], w, 0⟩) ∧ lenL (o ++ [u]) = k + 1 ∧ OpenOk B (j + 1) i (k + 1) (o ++ [u]) := by
  have hl1 : lenL (o ++ [u]) = k + 1 := by
    have := ho.len
    simp only [lenL_def, List.length_append, List.length_cons, List.length_nil] at this ⊢
    omega
  have hs1 : sizeN (o ++ [u]) ≤ 4 * (k + 1) := by
    rw [sizeN_app]
    have := ho.tx
    have e : sizeN [u] = lenS u.fText := by simp [sizeN]
    rw [e, u5]; omega
  have hw1 : addI .i64 w 1 = w + 1 := addI_n (by omega) (by omega)
  have hC : putC cL o w 0 u = if k + 1 = n then ⟨o ++ [u], true, [], w + 1, 0⟩ else ⟨[], false, o ++ [u], w, 0⟩ := by
    unfold putC
    have c1 : ¬ (cL.fUnits < lenL (o ++ [u]) ∨ cL.fBytes < sizeN (o ++ [u])) := by
      rintro (h | h)
      · have h' : (8 : Int) < lenL (o ++ [u]) := h
        omega
      · have h' : (400 : Int) < sizeN (o ++ [u]) := h
        omega
    rw [if_neg c1, u3, eqI_d, hw1]
    by_cases hk : k + 1 = n
    · have e : decide (k = n - 1) = true := decide_eq_true (by omega)
      rw [if_pos hk, e, if_neg (fun h => by cases h.2)]
    · have e : decide (k = n - 1) = false := decide_eq_false (by omega)
      rw [if_neg hk, e, if_pos ⟨rfl, rfl⟩]
  refine ⟨?_, hl1, hl1, fun _ => ?_, hs1⟩
  · unfold putP
    by_cases hk : k = 0
    · have h0 : o = [] := by
        have := ho.len
        rw [lenL_def] at this
        exact List.eq_nil_of_length_eq_zero (by omega)
      have hst : u.fStart = true := by rw [u4, eqI_d, decide_eq_true hk]
      have hfol : folB o u = false := by rw [h0]; rfl
      rw [hfol, if_neg (by simp), hst, if_neg (fun h => by cases h.2)]
      have : addI .i64 0 (lenL o) = 0 := by rw [h0]; decide
      rw [this, ← hC, h0]
    · have hst : u.fStart = false := by rw [u4, eqI_d, decide_eq_false hk]
      obtain ⟨l1, l2⟩ := ho.last (by omega)
      have hfol : folB o u = true := by
        unfold folB
        have e1 : addI .i64 (B + j - 1) 1 = B + j := by rw [addI_n (by omega) (by omega)]; omega
        have e2 : subI .i64 k 1 = k - 1 := subI_n (by omega) (by omega)
        rw [ho.len, eqI_d, decide_eq_false hk, cond_false, e2, l1, l2, u1, u2, hst, e1, eqI_t rfl, eqI_t rfl]
        rfl
      rw [if_pos hfol, hC]
  · have e : k + 1 - 1 = lenL o := by rw [ho.len]; omega
    rw [e, nth_app_eq, u1, u2]
    exact ⟨by omega, rfl⟩

end Go.Proofs
end
