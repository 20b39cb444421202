/- Numbers without an end: the program's and the document's rule are one. No condition. -/
import Derived.Test.YtbijdlgffebenaaM09
import Derived.Test.YtbijdlgffebenaaM11
import Derived.Test.YtbijdlgffebenaaM12
namespace Go.Proofs
open Go.Ab

/-- How far a number lies from another, on a circle. -/
def distS (m x n : Int) : Int := if (n - x % m) % m < m / 2 then (n - x % m) % m else (n - x % m) % m - m

theorem half16 : gSerialHalfUint16 = some 32768 := by
  unfold gSerialHalfUint16
  rw [need_t (show NonN 1 by decide)]
  have : addI .u16 (shrI .u16 (subI .u16 0 1) 1) 1 = 32768 := by decide
  rw [this]
theorem half32 : gSerialHalfUint32 = some 2147483648 := by
  unfold gSerialHalfUint32
  rw [need_t (show NonN 1 by decide)]
  have : addI .u32 (shrI .u32 (subI .u32 0 1) 1) 1 = 2147483648 := by decide
  rw [this]

theorem onear16 (x n : Int) : gSerialNearUint16 x n = some (addI .i64 x (distS 65536 x n)) := by
  unfold gSerialNearUint16 gSerialDistUint16
  rw [half16, bind_so]
  have e1 : subI .u16 n (cvtI .u16 x) = (n - x % 65536) % 65536 := by unfold subI cvtI; rw [wrapU16, wrapU16]
  have e2 : subI .u16 (cvtI .u16 x) n = (x % 65536 - n) % 65536 := by unfold subI cvtI; rw [wrapU16, wrapU16]
  rw [e1, e2, ltI_d]
  unfold distS
  by_cases h : (n - x % 65536) % 65536 < 32768
  · rw [decide_eq_true h, cond_true, bind_so, if_pos (show (n - x % 65536) % 65536 < 65536 / 2 from by omega)]
    unfold cvtI
    rw [wrap64_of (by omega) (by omega)]
  · rw [decide_eq_false h, cond_false, bind_so, if_neg (show ¬ (n - x % 65536) % 65536 < 65536 / 2 from by omega)]
    have : negI .i64 (cvtI .i64 ((x % 65536 - n) % 65536)) = (n - x % 65536) % 65536 - 65536 := by
      have c1 : cvtI .i64 ((x % 65536 - n) % 65536) = (x % 65536 - n) % 65536 := wrap64_of (by omega) (by omega)
      rw [c1]
      unfold negI
      rw [wrap64_of (by omega) (by omega)]
      omega
    rw [this]
theorem onear32 (x n : Int) : gSerialNearUint32 x n = some (addI .i64 x (distS 4294967296 x n)) := by
  unfold gSerialNearUint32 gSerialDistUint32
  rw [half32, bind_so]
  have e1 : subI .u32 n (cvtI .u32 x) = (n - x % 4294967296) % 4294967296 := by unfold subI cvtI; rw [wrapU32, wrapU32]
  have e2 : subI .u32 (cvtI .u32 x) n = (x % 4294967296 - n) % 4294967296 := by unfold subI cvtI; rw [wrapU32, wrapU32]
  rw [e1, e2, ltI_d]
  unfold distS
  by_cases h : (n - x % 4294967296) % 4294967296 < 2147483648
  · rw [decide_eq_true h, cond_true, bind_so, if_pos (show (n - x % 4294967296) % 4294967296 < 4294967296 / 2 from by omega)]
    unfold cvtI
    rw [wrap64_of (by omega) (by omega)]
  · rw [decide_eq_false h, cond_false, bind_so, if_neg (show ¬ (n - x % 4294967296) % 4294967296 < 4294967296 / 2 from by omega)]
    have : negI .i64 (cvtI .i64 ((x % 4294967296 - n) % 4294967296)) = (n - x % 4294967296) % 4294967296 - 4294967296 := by
      have c1 : cvtI .i64 ((x % 4294967296 - n) % 4294967296) = (x % 4294967296 - n) % 4294967296 := wrap64_of (by omega) (by omega)
      rw [c1]
      unfold negI
      rw [wrap64_of (by omega) (by omega)]
      omega
    rw [this]

theorem rmod (x m : Int) (hm : 0 < m) (hm2 : m ≤ 4294967296) : gRef01Mod x m = some (x % m) := by
  unfold gRef01Mod remI
  rw [need_t (show NonZ m from by unfold NonZ; omega)]
  simp only [ltI_d]
  have h1 := Int.emod_nonneg x (b := m) (by omega)
  have h2 := Int.emod_lt_of_pos x hm
  have h3 := Int.emod_add_mul_ediv x m
  by_cases hx : 0 ≤ x
  · have e := Int.tmod_eq_emod_of_nonneg (b := m) hx
    rw [e, decide_eq_false (by omega), cond_false]; rfl
  · have e := Int.tmod_eq_emod (a := x) (b := m)
    by_cases hd : m ∣ x
    · have e0 : x.tmod m = x % m := by rw [e, if_pos (.inr hd)]; simp
      rw [e0, decide_eq_false (by omega), cond_false]; rfl
    · have hne : x % m ≠ 0 := fun h => hd (Int.dvd_of_emod_eq_zero h)
      have e0 : x.tmod m = x % m - m := by
        rw [e, if_neg (by intro h; rcases h with h | h; exact hx h; exact hd h)]
        have : (m.natAbs : Int) = m := by omega
        omega
      rw [e0, decide_eq_true (by omega), cond_true]
      have : addI .i64 (x % m - m) m = x % m := by rw [addI_n (by omega) (by omega)]; omega
      rw [this]; rfl

theorem rnear (x n m : Int) (hm : m = 65536 ∨ m = 4294967296) (h0 : 0 ≤ n) (h1 : n < m) : gRef01Near x n m = some (addI .i64 x (distS m x n)) := by
  have hm0 : 0 < m := by omega
  unfold gRef01Near gRef01Dist
  have b1 := Int.emod_nonneg x (b := m) (by omega)
  have b2 := Int.emod_lt_of_pos x hm0
  have es : subI .i64 n (x % m) = n - x % m := subI_n (by omega) (by omega)
  have hq : quoI .i64 m 2 = m / 2 := quoI_n (by omega) (by omega) (by omega)
  rw [rmod x m hm0 (by omega), bind_so, es, rmod _ m hm0 (by omega), bind_so, need_t (show NonZ 2 by decide), hq, ltI_d]
  unfold distS
  have c1 := Int.emod_nonneg (n - x % m) (b := m) (by omega)
  have c2 := Int.emod_lt_of_pos (n - x % m) hm0
  by_cases h : (n - x % m) % m < m / 2
  · rw [decide_eq_true h, cond_true, bind_so, if_pos h]
  · rw [decide_eq_false h, cond_false, bind_so, if_neg h]
    rw [subI_n (by omega) (by omega)]

abbrev Sq := Antiphonref08Seq
def nearS (x n : Int) : Int := x + distS 65536 x n
theorem distS_b (x n : Int) : -32768 ≤ distS 65536 x n ∧ distS 65536 x n < 32768 := by
  unfold distS
  split <;> omega
/-- What a packet's number comes to. -/
def seqM (q : Sq) (n : Int) : Sq × Int × Bool :=
  if q.fBegun = false then (⟨true, 1048576 + n, -1, 0, 0⟩, 1048576 + n, true)
  else if nearS q.fMost n ≤ q.fMost + 3000 ∧ q.fMost - 3000 ≤ nearS q.fMost n then (⟨true, max q.fMost (nearS q.fMost n), -1, 0, q.fJumps⟩, nearS q.fMost n, true)
  else if q.fRun = 1 ∧ q.fAwait = n then (⟨true, (q.fMost / 65536 + 2) * 65536 + n, -1, 0, addI .i64 q.fJumps 1⟩, (q.fMost / 65536 + 2) * 65536 + n, true)
  else (⟨true, q.fMost, (n + 1) % 65536, 1, q.fJumps⟩, 0, false)
structure SeqOk (q : Sq) (B : Int) : Prop where
  bg : q.fBegun = true → 1000000 ≤ q.fMost ∧ q.fMost ≤ B
  nb : q.fBegun = false → q = ⟨false, 0, -1, 0, 0⟩
  run : (q.fRun = 0 ∧ q.fAwait = -1) ∨ (q.fRun = 1 ∧ 0 ≤ q.fAwait ∧ q.fAwait < 65536)
structure SeqRel (c : ExtendSeq) (q : Sq) : Prop where
  b : c.fBegun = q.fBegun
  m : c.fMost = q.fMost
  r : c.fRun = q.fRun
  j : c.fJumps = q.fJumps
  o : q.fRun = 1 → c.fOdd = q.fAwait

theorem seqM_ok {q : Sq} {B n : Int} (h : SeqOk q B) (h0 : 0 ≤ n) (h1 : n < 65536) (hB0 : 2000000 ≤ B) : SeqOk (seqM q n).1 (B + 200000) ∧ ((seqM q n).2.2 = true → 0 ≤ (seqM q n).2.1 ∧ (seqM q n).2.1 ≤ B + 200000) ∧ (seqM q n).1.fBegun = true := by
  have hd := distS_b q.fMost n
  unfold seqM
  by_cases hb : q.fBegun = false
  · rw [if_pos hb]
    exact ⟨⟨fun _ => ⟨by simp only; omega, by simp only; omega⟩, fun h => (by cases h), .inl ⟨rfl, rfl⟩⟩, fun _ => ⟨by simp only; omega, by simp only; omega⟩, rfl⟩
  · rw [if_neg hb]
    have hb' : q.fBegun = true := by simpa using hb
    obtain ⟨m0, m1⟩ := h.bg hb'
    by_cases hn : nearS q.fMost n ≤ q.fMost + 3000 ∧ q.fMost - 3000 ≤ nearS q.fMost n
    · rw [if_pos hn]
      unfold nearS at hn ⊢
      exact ⟨⟨fun _ => ⟨by simp only; omega, by simp only; omega⟩, fun h => (by cases h), .inl ⟨rfl, rfl⟩⟩, fun _ => ⟨by simp only; omega, by simp only; omega⟩, rfl⟩
    · rw [if_neg hn]
      split
      · exact ⟨⟨fun _ => ⟨by simp only; omega, by simp only; omega⟩, fun h => (by cases h), .inl ⟨rfl, rfl⟩⟩, fun _ => ⟨by simp only; omega, by simp only; omega⟩, rfl⟩
      · exact ⟨⟨fun _ => ⟨by simp only; omega, by simp only; omega⟩, fun h => (by cases h), .inr ⟨rfl, by simp only; omega, by simp only; omega⟩⟩, fun h => (by cases h), rfl⟩

theorem or_add {j : Nat} {a b : Int} (ha : 0 ≤ a) (hd : a % 2 ^ j = 0) (hb0 : 0 ≤ b) (hb : b < 2 ^ j) (h : a + b < 9223372036854775808) : bitsOp .or .i64 a b = a + b := by
  have e : (BitVec.ofInt 64 a ||| BitVec.ofInt 64 b).toNat = a.toNat + b.toNat := by
    rw [BitVec.toNat_or, BitVec.toNat_ofInt, BitVec.toNat_ofInt]
    have e1 : (a % ((2 ^ 64 : Nat) : Int)).toNat = a.toNat := by
      rw [Int.emod_eq_of_lt ha (by have : ((2 ^ 64 : Nat) : Int) = 18446744073709551616 := by decide
                                   omega)]
    have e2 : (b % ((2 ^ 64 : Nat) : Int)).toNat = b.toNat := by
      rw [Int.emod_eq_of_lt hb0 (by have : ((2 ^ 64 : Nat) : Int) = 18446744073709551616 := by decide
                                    omega)]
    rw [e1, e2]
    have hbn : b.toNat < 2 ^ j := by
      have : ((2 ^ j : Nat) : Int) = (2 : Int) ^ j := by push_cast; rfl
      omega
    have han : ∃ k, a.toNat = k <<< j := by
      refine ⟨a.toNat / 2 ^ j, ?_⟩
      rw [Nat.shiftLeft_eq]
      have h2 : ((2 ^ j : Nat) : Int) = (2 : Int) ^ j := by push_cast; rfl
      have h3 : a.toNat % 2 ^ j = 0 := by
        have : ((a.toNat % 2 ^ j : Nat) : Int) = 0 := by
          rw [Int.natCast_emod, Int.toNat_of_nonneg ha, h2]; exact hd
        omega
      have := Nat.div_add_mod a.toNat (2 ^ j)
      rw [h3, Nat.mul_comm] at this
      omega
    obtain ⟨k, hk⟩ := han
    rw [hk, Nat.shiftLeft_add_eq_or_of_lt hbn]
  show IntKind.i64.wrap (((BitVec.ofInt 64 a ||| BitVec.ofInt 64 b).toNat : Nat) : Int) = a + b
  rw [e, wrap64_of (by omega) (by omega)]
  omega

theorem rseq {q : Sq} {B n : Int} (h : SeqOk q B) (h0 : 0 ≤ n) (h1 : n < 65536) (hB : B ≤ 1000000000000) : gRef08Put q n = some ((seqM q n).1, (seqM q n).2.1, (seqM q n).2.2) := by
  have hd := distS_b q.fMost n
  unfold gRef08Put seqM
  rw [notB_d]
  cases hb : q.fBegun with
  | false =>
    rw [show (!false) = true from rfl, cond_true, if_pos rfl, addI_n (by omega) (by omega)]
  | true =>
    obtain ⟨m0, m1⟩ := h.bg hb
    rw [show (!true) = false from rfl, cond_false, if_neg (by simp), rnear _ _ _ (.inl rfl) h0 h1, bind_so, pickB_and]
    have en : addI .i64 q.fMost (distS 65536 q.fMost n) = nearS q.fMost n := addI_n (by omega) (by omega)
    have e1 : addI .i64 q.fMost 3000 = q.fMost + 3000 := addI_n (by omega) (by omega)
    have e2 : subI .i64 q.fMost 3000 = q.fMost - 3000 := subI_n (by omega) (by omega)
    rw [en, e1, e2, leI_d, leI_d]
    by_cases hn : nearS q.fMost n ≤ q.fMost + 3000 ∧ q.fMost - 3000 ≤ nearS q.fMost n
    · rw [decide_eq_true hn.1, decide_eq_true hn.2, if_pos hn]; rfl
    · rw [if_neg hn]
      have : (decide (nearS q.fMost n ≤ q.fMost + 3000) && decide (q.fMost - 3000 ≤ nearS q.fMost n)) = false := by
        rw [← Bool.decide_and]; exact decide_eq_false hn
      rw [this, cond_false, eqI_d]
      have e3 : remI (addI .i64 n 1) 65536 = (n + 1) % 65536 := by
        unfold remI
        rw [addI_n (by omega) (by omega), Int.tmod_eq_emod_of_nonneg (by omega)]
      have e4 : addI .i64 (mulI .i64 (addI .i64 (quoI .i64 q.fMost 65536) 2) 65536) n = (q.fMost / 65536 + 2) * 65536 + n := by
        have q1 : quoI .i64 q.fMost 65536 = q.fMost / 65536 := quoI_n (by omega) (by omega) (by omega)
        have q2 : addI .i64 (q.fMost / 65536) 2 = q.fMost / 65536 + 2 := addI_n (by omega) (by omega)
        have q3 : mulI .i64 (q.fMost / 65536 + 2) 65536 = (q.fMost / 65536 + 2) * 65536 := mulI_n (by omega) (by omega)
        rw [q1, q2, q3, addI_n (by omega) (by omega)]
      rcases h.run with ⟨r0, a0⟩ | ⟨r0, a0, a1⟩
      · rw [decide_eq_false (by omega), cond_false, bind_so, flC_go, need_t (show NonZ 65536 by decide), if_neg (by omega)]
        dsimp only
        rw [show ltI 1 2 = true from rfl, cond_true, e3]
      · by_cases ha : q.fAwait = n
        · rw [decide_eq_true ha, cond_true, bind_so, flC_go, need_t (show NonZ 65536 by decide), if_pos ⟨r0, ha⟩]
          dsimp only
          rw [r0, show ltI (addI .i64 1 1) 2 = false from by decide, cond_false, need_t (show NonZ 65536 by decide), e4]
        · rw [decide_eq_false ha, cond_false, bind_so, flC_go, need_t (show NonZ 65536 by decide), if_neg (fun h => ha h.2)]
          dsimp only
          rw [show ltI 1 2 = true from rfl, cond_true, e3]

theorem oseq {s : IngressSource} {q : Sq} {B n : Int} (hr : SeqRel s.fSeq q) (h : SeqOk q B) (h0 : 0 ≤ n) (h1 : n < 65536) (hB : B ≤ 1000000000000) :
    ∃ c', gExtendSeqPutInIngressSource2 s n = some ((seqM q n).2.1, (seqM q n).2.2, IngressSource.mk s.fBuffer s.fMaker c' s.fClock s.fOf s.fBad s.fKeys) ∧ SeqRel c' (seqM q n).1 := by
  have hd := distS_b q.fMost n
  have cn : cvtI .i64 n = n := wrap64_of (by omega) (by omega)
  unfold gExtendSeqPutInIngressSource2 seqM
  rw [notB_d, hr.b, cn]
  cases hb : q.fBegun with
  | false =>
    have hq := h.nb hb
    rw [show (!false) = true from rfl, cond_true, if_pos rfl, addI_n (by omega) (by omega)]
    exact ⟨_, rfl, ⟨rfl, rfl, by rw [hr.r, hq], by rw [hr.j, hq], fun h => by cases h⟩⟩
  | true =>
    obtain ⟨m0, m1⟩ := h.bg hb
    rw [show (!true) = false from rfl, cond_false, if_neg (by simp), hr.m, onear16, bind_so, pickB_and]
    have en : addI .i64 q.fMost (distS 65536 q.fMost n) = nearS q.fMost n := addI_n (by omega) (by omega)
    have hnb : q.fMost - 32768 ≤ nearS q.fMost n ∧ nearS q.fMost n < q.fMost + 32768 := by unfold nearS; omega
    have e1 : subI .i64 (nearS q.fMost n) q.fMost = nearS q.fMost n - q.fMost := subI_n (by omega) (by omega)
    rw [en, e1, leI_d, leI_d]
    by_cases hn : nearS q.fMost n ≤ q.fMost + 3000 ∧ q.fMost - 3000 ≤ nearS q.fMost n
    · rw [decide_eq_true (by omega), decide_eq_true (by omega), if_pos hn]
      exact ⟨_, rfl, ⟨rfl, rfl, rfl, hr.j, fun h => by cases h⟩⟩
    · rw [if_neg hn]
      have : (decide (nearS q.fMost n - q.fMost ≤ 3000) && decide (-3000 ≤ nearS q.fMost n - q.fMost)) = false := by
        rw [← Bool.decide_and]; exact decide_eq_false (by omega)
      rw [this, cond_false, pickB_and, ltI_d, eqI_d, hr.r]
      have e3 : addI .u16 n 1 = (n + 1) % 65536 := wrapU16 _
      have one : ∀ c1 : ExtendSeq, c1 = ExtendSeq.mk true q.fMost s.fSeq.fOdd 1 s.fSeq.fJumps → ∃ c', (bif leqI 2 c1.fRun then
            (gExtendSeqRestartInIngressSource2 (IngressSource.mk s.fBuffer s.fMaker (ExtendSeq.mk c1.fBegun c1.fMost (addI .u16 n 1) c1.fRun c1.fJumps) s.fClock s.fOf s.fBad s.fKeys) n).bind fun r2 => some (r2.1, true, r2.2)
          else some (0, false, (IngressSource.mk s.fBuffer s.fMaker (ExtendSeq.mk c1.fBegun c1.fMost (addI .u16 n 1) c1.fRun c1.fJumps) s.fClock s.fOf s.fBad s.fKeys))) =
          some (0, false, IngressSource.mk s.fBuffer s.fMaker c' s.fClock s.fOf s.fBad s.fKeys) ∧ SeqRel c' ⟨true, q.fMost, (n + 1) % 65536, 1, q.fJumps⟩ := by
        rintro c1 rfl
        dsimp only
        rw [show leqI 2 1 = false from rfl, cond_false]
        exact ⟨_, rfl, ⟨rfl, rfl, rfl, hr.j, fun _ => e3⟩⟩
      rcases h.run with ⟨r0, a0⟩ | ⟨r0, a0, a1⟩
      · rw [r0, show decide ((0 : Int) < 0) = false from rfl, Bool.false_and, cond_false, bind_so, flC_go, if_neg (by omega)]
        exact one _ rfl
      · rw [r0, show decide ((0 : Int) < 1) = true from rfl, Bool.true_and, show decide (n = s.fSeq.fOdd) = decide (n = q.fAwait) from by rw [hr.o r0]]
        by_cases ha : q.fAwait = n
        · rw [decide_eq_true ha.symm, cond_true, bind_so, flC_go, if_pos ⟨rfl, ha⟩]
          dsimp only
          rw [show leqI 2 (addI .i64 1 1) = true from by decide, cond_true]
          unfold gExtendSeqRestartInIngressSource2
          dsimp only
          rw [need_t (show NonN 16 by decide), need_t (show NonN 16 by decide), cn]
          have e4 : bitsOp .or .i64 (shlI .i64 (addI .i64 (shrI .i64 q.fMost 16) 2) 16) n = (q.fMost / 65536 + 2) * 65536 + n := by
            have s1 : shrI .i64 q.fMost 16 = q.fMost / 65536 := by
              show q.fMost.fdiv 65536 = _
              exact Int.fdiv_eq_ediv_of_nonneg _ (by omega)
            rw [s1, addI_n (by omega) (by omega)]
            have s2 : shlI .i64 (q.fMost / 65536 + 2) 16 = (q.fMost / 65536 + 2) * 65536 := by
              show IntKind.i64.wrap ((q.fMost / 65536 + 2) * 65536) = _
              exact wrap64_of (by omega) (by omega)
            rw [s2]
            exact or_add (j := 16) (by omega) (by show _ % 65536 = 0; omega) h0 h1 (by omega)
          rw [e4]
          exact ⟨ExtendSeq.mk true ((q.fMost / 65536 + 2) * 65536 + n) (addI .u16 n 1) 0 (addI .i64 s.fSeq.fJumps 1), rfl, ⟨rfl, rfl, rfl, by simp only; rw [hr.j], fun h => by cases h⟩⟩
        · rw [decide_eq_false (fun h => ha h.symm), cond_false, bind_so, flC_go, if_neg (fun h => ha h.2)]
          exact one _ rfl

/-- The clock. -/
def clkM (ck t : Int) : Int × Int := if ck < 0 then (addI .i64 68719476736 t, addI .i64 68719476736 t) else (max ck (addI .i64 ck (distS 4294967296 ck t)), addI .i64 ck (distS 4294967296 ck t))
structure ClkRel (c : ExtendClock) (ck : Int) : Prop where
  b : c.fBegun = decide (0 ≤ ck)
  l : 0 ≤ ck → c.fLast = ck
theorem oclk {s : IngressSource} {ck t : Int} (hr : ClkRel s.fClock ck) (h0 : 0 ≤ t) (h1 : t < 4294967296) :
    ∃ c', gExtendClockPutInIngressSource7 s t = some ((clkM ck t).2, IngressSource.mk s.fBuffer s.fMaker s.fSeq c' s.fOf s.fBad s.fKeys) ∧ ClkRel c' (clkM ck t).1 := by
  have cn : cvtI .i64 t = t := wrap64_of (by omega) (by omega)
  unfold gExtendClockPutInIngressSource7 clkM
  rw [notB_d, hr.b, cn]
  by_cases h : ck < 0
  · rw [decide_eq_false (by omega), show (!false) = true from rfl, cond_true, if_pos h]
    have : addI .i64 68719476736 t = 68719476736 + t := addI_n (by omega) (by omega)
    exact ⟨_, rfl, ⟨by simp only; rw [this, decide_eq_true (by omega)], fun _ => rfl⟩⟩
  · rw [decide_eq_true (by omega), show (!true) = false from rfl, cond_false, if_neg h, hr.l (by omega), onear32]
    exact ⟨_, rfl, ⟨by simp only; rw [decide_eq_true (by omega)], fun _ => rfl⟩⟩
end Go.Proofs
