import Derived.Test.YtoiieebljbhpbaaGreatDoorM08
import Derived.Test.YtoiieebljbhpbaaGreatDoorM16
import Derived.Test.YtoiieebljbhpbaaGreatDoorM12
import Derived.Laws.Cover4
import Derived.Test.YtoiieebljbhpbaaGreatDoorM09
import Derived.Test.YtoiieebljbhpbaaGreatDoorM20
import Derived.Test.YtoiieebljbhpbaaGreatDoorM15
import Derived.Test.YtoiieebljbhpbaaGreatDoorM06
section
namespace Go.Proofs
open Go.Ab
theorem fail_d (l : List UInt8) (e x : Int) (hx : x ≠ 0) : gI (Tj.mk (ofB l) e) x = some (Tj.mk (ofB (flt x l e).1) (flt x l e).2) := by
 unfold gI flt;by_cases h : e = 0
 ·subst h;have : qaf (eqI 0 0) (neI x 0) false = true := by rw [qai, eqI_t rfl, neI_t hx]; rfl
  simp only [this, cond_true, if_true];rfl
 ·have : qaf (eqI e 0) (neI x 0) false = false := by rw [qai, eqI_f h]; rfl
  simp only [this, cond_false, h, if_false]
theorem bytes_d (n : Nat) (l : List UInt8) (e : Int) : gy (Tj.mk (ofB l) e) (n : Int) = some (ofB (stp n l e).1, Tj.mk (ofB (stp n l e).2.1) (stp n l e).2.2) := by
 unfold gy;by_cases h : e = 0
 ·subst h;rw [neI_f rfl];simp only [cond_false];rw [ltI_f (by omega)];simp only [cond_false, lenS_of];by_cases h1 : l.length < n
  ·rw [ltI_t (by omega), stp_short h1, fail_d l 0 1 (by omega)];rfl
  ·rw [ltI_f (by omega), stp_ok (by omega), Lh (show CutB _ _ _ from ⟨by omega, by omega, by omega⟩), Lh (show CutB _ _ _ from ⟨by omega, by omega, by omega⟩), cutS_ofB, cutS_ofB];simp only [cond_false, Int.toNat_natCast, Int.toNat_zero, List.drop_zero, Nat.sub_zero];congr 3;rw [List.take_of_length_le (by rw [List.length_drop]; omega)]
 ·rw [neI_t h, stp_err h];rfl
theorem orB {x c : Int} (h0 : 0 ≤ x) (h1 : x < 72057594037927936) (c0 : 0 ≤ c) (c1 : c < 256) : qaq .or .u64 (shlI .u64 x 8) (cvtI .u64 c) = x * 256 + c := by
 obtain ⟨n, rfl⟩ : ∃ n : Nat, x = n := ⟨x.toNat, by omega⟩;obtain ⟨m, rfl⟩ : ∃ m : Nat, c = m := ⟨c.toNat, by omega⟩
 have e1 : shlI .u64 (n : Int) 8 = ((n * 256 : Nat) : Int) := by
  unfold shlI;rw [show (2 : Int) ^ (min (8 : Int).toNat IntKind.u64.bits) = 256 by decide, wrapU64 (by omega) (by omega)];omega
 have e2 : cvtI .u64 (m : Int) = (m : Int) := by unfold cvtI; exact wrapU64 (by omega) (by omega)
 rw [e1, e2];show IntKind.u64.wrap (((BitVec.ofInt 64 ((n * 256 : Nat) : Int) ||| BitVec.ofInt 64 (m : Int)).toNat : Nat) : Int) = _;rw [BitVec.toNat_or, BitVec.ofInt_natCast, BitVec.ofInt_natCast, BitVec.toNat_ofNat, BitVec.toNat_ofNat, Nat.mod_eq_of_lt (by omega), Nat.mod_eq_of_lt (by omega)]
 have : n * 256 ||| m = n * 256 + m := by
  have := Nat.two_pow_add_eq_or_of_lt (i := 8) (b := m) (by omega) n;rw [Nat.mul_comm n 256];exact this.symm
 rw [this, wrapU64 (by omega) (by omega)];omega
theorem num_loop (b : List UInt8) (R : Tj) (hb : b.length ≤ 8) : ∀ (t p : List UInt8), b = p ++ t →
  loopF (gm.loop1 (ofB b, R)) ((p.length : Int), val p) = some (.go (val b))
 | [], p, h => by
   rw [loopF_eq];rw [List.append_nil] at h;simp only [gm.loop1, numsOf_ofB];rw [ltI_f (by unfold qat; rw [List.length_map, h]; omega), h];rfl
 | x :: t, p, h => by
   have hL : b.length = p.length + (t.length + 1) := by rw [h]; simp
   have hr := val_rng p.length p rfl;have hx := x.toNat_lt
   have hp : (256 : Int) ^ p.length ≤ 72057594037927936 := by
    have : p.length = 0 ∨ p.length = 1 ∨ p.length = 2 ∨ p.length = 3 ∨ p.length = 4 ∨ p.length = 5 ∨ p.length = 6 ∨ p.length = 7 := by omega
    rcases this with h | h | h | h | h | h | h | h <;> rw [h] <;> decide
   rw [loopF_eq];simp only [gm.loop1, numsOf_ofB];rw [ltI_t (by unfold qat; rw [List.length_map]; omega), Lh (show InB _ _ from ⟨by omega, by unfold qat; rw [List.length_map]; omega⟩), Lh (show NonN 8 by unfold NonN; omega)]
   have hn : nthI (b.map fun b => (b.toNat : Int)) (p.length : Int) = (x.toNat : Int) := by
    unfold nthI;rw [h];simp
   rw [hn, orB hr.1 (by omega) (by omega) (by omega), addI_n (by omega) (by omega)];have ih := num_loop b R hb t (p ++ [x]) (by rw [h]; simp);rw [val_snoc] at ih;simp only [cond_true];rw [← ih];congr 2;simp
theorem num_d {n : Nat} (h1 : 1 ≤ n) (h8 : n ≤ 8) (l : List UInt8) (e : Int) : gm (Tj.mk (ofB l) e) (n : Int) = some (val (stp n l e).1, Tj.mk (ofB (stp n l e).2.1) (stp n l e).2.2) := by
 unfold gm;have hm : minI (maxI (n : Int) 1) 8 = (n : Int) := by rw [minI_d, maxI_d]; omega
 rw [hm, bytes_d];simp only [Le]
 have hl : (stp n l e).1.length ≤ 8 := by
  unfold stp;split
  ·simp
  ·split
   ·simp
   ·simp only [List.length_take]; omega
 have := num_loop (stp n l e).1 (Tj.mk (ofB (stp n l e).2.1) (stp n l e).2.2) hl (stp n l e).1 [] rfl;simp only [List.length_nil, val_nil] at this;rw [show ((0 : Nat) : Int) = 0 from rfl] at this;rw [this];rfl
theorem stp_rng (n : Nat) (l : List UInt8) (e : Int) : 0 ≤ val (stp n l e).1 ∧ val (stp n l e).1 < 256 ^ n := by
 have hp : (0 : Int) < 256 ^ n := Int.pow_pos (by omega);unfold stp;split
 ·exact ⟨by simp [val], by simpa [val] using hp⟩
 ·split
  ·exact ⟨by simp [val], by simpa [val] using hp⟩
  ·exact val_rng n _ (by rw [List.length_take]; omega)
theorem u8_d (l : List UInt8) (e : Int) : gX (Tj.mk (ofB l) e) = some (val (stp 1 l e).1, Tj.mk (ofB (stp 1 l e).2.1) (stp 1 l e).2.2) := by
 unfold gX;have := num_d (n := 1) (by omega) (by omega) l e;rw [show ((1 : Nat) : Int) = 1 from rfl] at this;rw [this];have hr := stp_rng 1 l e;simp only [Le];unfold cvtI;rw [IntKind.wrap_u8', Int.emod_eq_of_lt hr.1 (by have := hr.2; simpa using this)]
theorem u16_d (l : List UInt8) (e : Int) : gL (Tj.mk (ofB l) e) = some (val (stp 2 l e).1, Tj.mk (ofB (stp 2 l e).2.1) (stp 2 l e).2.2) := by
 unfold gL;have := num_d (n := 2) (by omega) (by omega) l e;rw [show ((2 : Nat) : Int) = 2 from rfl] at this;rw [this];have hr := stp_rng 2 l e;simp only [Le];unfold cvtI;rw [IntKind.wrap_u16, Int.emod_eq_of_lt hr.1 (by have := hr.2; simpa using this)]
theorem u32_d (l : List UInt8) (e : Int) : gM (Tj.mk (ofB l) e) = some (val (stp 4 l e).1, Tj.mk (ofB (stp 4 l e).2.1) (stp 4 l e).2.2) := by
 unfold gM;have := num_d (n := 4) (by omega) (by omega) l e;rw [show ((4 : Nat) : Int) = 4 from rfl] at this;rw [this];have hr := stp_rng 4 l e;simp only [Le];unfold cvtI;rw [IntKind.wrap_u32', Int.emod_eq_of_lt hr.1 (by have := hr.2; simpa using this)]
def nums (l : List UInt8) : List Int := l.map fun b => (b.toNat : Int)
theorem nums_app (a b : List UInt8) : nums (a ++ b) = nums a ++ nums b := List.map_append
theorem nums_len (a : List UInt8) : qat (nums a) = (a.length : Int) := by unfold qat nums; rw [List.length_map]
theorem str_nums (l : List UInt8) : strOfNums (nums l) = ofB l := bytes_ext (by
 rw [nums_b, ofB_b];unfold nums;rw [List.map_map];have : ∀ b : UInt8, ((fun n : Int => n.toNat.toUInt8) ∘ fun b : UInt8 => (b.toNat : Int)) b = b := fun b => by simp
 rw [List.map_congr_left fun b _ => this b, List.map_id'])
theorem numsOf_of (l : List UInt8) : numsOf (ofB l) = nums l := numsOf_ofB l
theorem be_high : ∀ (n : Nat) (x : Int), be (n + 1) x = ((x / 256 ^ n) % 256).toNat.toUInt8 :: be n x
 | 0, x => by simp [be]
 | n + 1, x => by
   rw [be, be_high n (x / 256), be]
   have : x / 256 / 256 ^ n = x / 256 ^ (n + 1) := by
    rw [Int.pow_succ, Int.mul_comm, ← Int.ediv_ediv_of_nonneg (by omega)]
   rw [this];rfl
theorem cvtu8 (x : Int) : cvtI .u8 x = x % 256 := by unfold cvtI; rw [IntKind.wrap_u8']
theorem wnum_loop2 (x : Int) (s1 : Int × List Int) (hs : s1.1 = 0) (h0 : 0 ≤ x) : ∀ (m : Nat) (acc : List UInt8), m ≤ 8 → acc.length + m ≤ 1000000 →
  loopF (gk.loop2 [x] s1) ((m : Int) - 1, nums acc) = some (.go (nums (acc ++ be m x)))
 | 0, acc, _, _ => by
   rw [loopF_eq];simp only [gk.loop2];rw [leI_f (by omega)];simp [be]
 | m + 1, acc, hm, ha => by
   rw [loopF_eq];simp only [gk.loop2];have e1 : (((m + 1 : Nat) : Int) - 1) = (m : Int) := by omega
   rw [e1, leI_t (by omega), mulI_n (by omega) (by omega), Lh (show NonN _ by unfold NonN; omega), Lh (show AppB _ _ _ from ⟨by rw [nums_len]; omega, by rw [nums_len]; omega⟩), subI_n (by omega) (by omega), hs]
   have e2 : cvtI .u8 (shrI .u64 (nthI [x] 0) (8 * (m : Int))) = (((x / 256 ^ m) % 256).toNat.toUInt8.toNat : Int) := by
    rw [cvtu8, byte_of (by omega) (by omega)];unfold shrI;rw [show nthI [x] 0 = x from rfl]
    have : (2 : Int) ^ (min (8 * (m : Int)).toNat IntKind.u64.bits) = 256 ^ m := by
     have e3 : min (8 * (m : Int)).toNat IntKind.u64.bits = 8 * m := by
      have : IntKind.u64.bits = 64 := rfl;omega
     rw [e3, Int.pow_mul];rfl
    rw [this, Int.fdiv_eq_ediv_of_nonneg _ (by exact Int.pow_nonneg (by omega))]
   rw [e2];simp only [cond_true]
   have e4 : appL (nums acc) [(((x / 256 ^ m) % 256).toNat.toUInt8.toNat : Int)] = nums (acc ++ [((x / 256 ^ m) % 256).toNat.toUInt8]) := by
    rw [nums_app]; rfl
   rw [e4, wnum_loop2 x s1 hs h0 m _ (by omega) (by simp; omega), be_high];simp
theorem wnum_d {n : Nat} (h1 : 1 ≤ n) (h8 : n ≤ 8) {x : Int} (h0 : 0 ≤ x) (acc : List UInt8) (ha : acc.length ≤ 900000) : gk (nums acc) (n : Int) [x] = some (nums (acc ++ be n x)) := by
 unfold gk;have hm : minI (maxI (n : Int) 1) 8 = (n : Int) := by rw [minI_d, maxI_d]; omega
 rw [loopF_eq];simp only [gk.loop1, hm];rw [ltI_t (show (0 : Int) < qat [x] by show (0 : Int) < 1; omega), Lh (show InB 0 (qat [x]) from ⟨by omega, by show (0 : Int) < 1; omega⟩), subI_n (by omega) (by omega), wnum_loop2 x _ rfl h0 n acc (by omega) (by omega)];simp only [cond_true, Le, qal];rw [addI_n (by omega) (by omega), loopF_eq];simp only [gk.loop1];rw [ltI_f (show ¬ (0 + 1 : Int) < qat [x] by show ¬ ((0 : Int) + 1 < 1); omega)];rfl
theorem cvtu64 {x : Int} (h0 : 0 ≤ x) (h1 : x < 18446744073709551616) : cvtI .u64 x = x := by unfold cvtI; exact wrapU64 h0 h1
theorem cvtu16 {x : Int} (h0 : 0 ≤ x) (h1 : x < 65536) : cvtI .u16 x = x := by unfold cvtI; rw [IntKind.wrap_u16]; omega
theorem u16w {x : Int} (h0 : 0 ≤ x) (h1 : x < 65536) (acc : List UInt8) (ha : acc.length ≤ 900000) : gp (nums acc) [cvtI .u16 x] = some (nums (acc ++ be 2 x)) := by
 rw [cvtu16 h0 h1];unfold gp;rw [loopF_eq];simp only [gp.loop1];have := wnum_d (n := 2) (by omega) (by omega) h0 acc ha;rw [show ((2 : Nat) : Int) = 2 from rfl] at this;rw [ltI_t (show (0 : Int) < qat [x] by show (0 : Int) < 1; omega), Lh (show InB 0 (qat [x]) from ⟨by omega, by show (0 : Int) < 1; omega⟩), show nthI [x] 0 = x from rfl, cvtu64 h0 (by omega), this];simp only [cond_true, Le];rw [addI_n (by omega) (by omega), loopF_eq];simp only [gp.loop1];rw [ltI_f (show ¬ (0 + 1 : Int) < qat [x] by show ¬ ((0 : Int) + 1 < 1); omega)];rfl
theorem u32w (ss : List Int) (hs : ∀ x ∈ ss, 0 ≤ x ∧ x < 4294967296) (hl : ss.length < 256) : ∀ (t p : List Int) (acc : List UInt8), ss = p ++ t → acc.length + 4 * t.length ≤ 900000 →
  loopF (gt.loop1 ss) ((p.length : Int), nums acc) = some (.go (nums (acc ++ t.flatMap (be 4))))
 | [], p, acc, h, ha => by
   rw [loopF_eq];simp only [gt.loop1];rw [ltI_f (by unfold qat; rw [h]; simp)];simp
 | x :: t, p, acc, h, ha => by
   have hx := hs x (by rw [h]; simp);have hL : ss.length = p.length + (t.length + 1) := by rw [h]; simp
   rw [List.length_cons] at ha;rw [loopF_eq];simp only [gt.loop1]
   have hn : nthI ss (p.length : Int) = x := by
    unfold nthI;rw [h];simp
   have := wnum_d (n := 4) (by omega) (by omega) hx.1 acc (by omega);rw [show ((4 : Nat) : Int) = 4 from rfl] at this;rw [ltI_t (by unfold qat; omega), Lh (show InB _ _ from ⟨by omega, by unfold qat; omega⟩), hn, cvtu64 hx.1 (by omega), this];simp only [cond_true, Le];rw [addI_n (by omega) (by omega)];have ih := u32w ss hs hl t (p ++ [x]) (acc ++ be 4 x) (by rw [h]; simp) (by rw [List.length_append, be_len]; omega);rw [List.flatMap_cons, ← List.append_assoc, ← ih];congr 2;simp
theorem u32w_d {ss : List Int} (hs : ∀ x ∈ ss, 0 ≤ x ∧ x < 4294967296) (hl : ss.length < 256) (acc : List UInt8) (ha : acc.length ≤ 10000) : gt (nums acc) ss = some (nums (acc ++ ss.flatMap (be 4))) := by
 unfold gt;have := u32w ss hs hl ss [] acc rfl (by omega);rw [show (([] : List Int).length : Int) = 0 from rfl] at this;rw [this];rfl
theorem put_d (s : List UInt8) (hs : 0 < s.length) (hl : s.length < 256) (acc : List UInt8) (ha : acc.length ≤ 900000) : gu (nums acc) [ofB s] = some (nums (acc ++ s)) := by
 unfold gu;rw [loopF_eq];simp only [gu.loop1];rw [ltI_t (show (0 : Int) < qat [ofB s] by show (0 : Int) < 1; omega), Lh (show InB 0 (qat [ofB s]) from ⟨by omega, by show (0 : Int) < 1; omega⟩), show nthI [ofB s] 0 = ofB s from rfl, lenS_of, Lh (by omega), Lh (show AppB _ _ _ from ⟨by rw [nums_len]; omega, by rw [nums_len]; omega⟩), numsOf_of];simp only [cond_true];rw [addI_n (by omega) (by omega), loopF_eq];simp only [gu.loop1];rw [ltI_f (show ¬ (0 + 1 : Int) < qat [ofB s] by show ¬ ((0 : Int) + 1 < 1); omega), ← show appL (nums acc) (nums s) = nums (acc ++ s) from (nums_app acc s).symm];rfl
end Go.Proofs
end
section
namespace Go.Proofs
open Go.Ab
theorem rd_len (l : List UInt8) (e : Int) : gZ (Tj.mk (ofB l) e) = some (l.length : Int) := by
 unfold gZ; rw [lenS_of]
theorem rest_d (l : List UInt8) : gQ (Tj.mk (ofB l) 0) = some (ofB l, Tj.mk (ofB []) 0) := by
 unfold gQ;rw [rd_len];simp only [Le];rw [bytes_d, stp_ok (Nat.le_refl _)];simp
theorem live_text : gK (Tl.mk false 96 1 0 0 [] false 0 ⟨#[]⟩ ⟨#[120]⟩ 0) = some (ofB [128, 96, 0, 1, 0, 0, 0, 0, 0, 0, 0, 0, 120]) := by
 have e0 : appL [] [qaq .or .u8 (qaq .or .u8 (qaq .or .u8 128 0) 0) (cvtI .u8 (qat ([] : List Int))), qaq .or .u8 0 96] = nums [128, 96] := by decide
 have e1 : gp (nums [128, 96]) [1] = some (nums [128, 96, 0, 1]) := by
  have := u16w (x := 1) (by omega) (by omega) [128, 96] (by decide);rw [cvtu16 (by omega) (by omega)] at this;rw [this]; congr 1
 have e2 : gt (nums [128, 96, 0, 1]) [0, 0] = some (nums [128, 96, 0, 1, 0, 0, 0, 0, 0, 0, 0, 0]) := by
  rw [u32w_d (ss := [0, 0]) (by decide) (by decide) _ (by decide)]; congr 1
 have e3 : gt (nums [128, 96, 0, 1, 0, 0, 0, 0, 0, 0, 0, 0]) [] = some (nums [128, 96, 0, 1, 0, 0, 0, 0, 0, 0, 0, 0]) := by
  rw [u32w_d (ss := []) (by simp) (by decide) _ (by decide)]; congr 1
 have e4 : gu (nums [128, 96, 0, 1, 0, 0, 0, 0, 0, 0, 0, 0]) [⟨#[120]⟩] = some (nums [128, 96, 0, 1, 0, 0, 0, 0, 0, 0, 0, 0, 120]) := put_d [120] (by decide) (by decide) _ (by decide);unfold gK;simp only [gaB, show ltI 0 0 = false from rfl, cond_false, Le];rw [Lh (show AppB 0 2 1 by decide), e0, e1];simp only [Le, e2, e3, qal, e4];rw [loopF_eq];simp only [gK.loop2, show ltI 0 0 = false from rfl, cond_false, Le, qal];rw [Lh (show TextB _ by decide), str_nums]
theorem live_parse : ∃ p, gae (ofB [128, 96, 0, 1, 0, 0, 0, 0, 0, 0, 0, 0, 120]) = some (p, 0) ∧ p.fy = ofB [120] ∧ p.fD = 96 := by
 unfold gae;rw [show ltI 1500 (lenS (ofB [128, 96, 0, 1, 0, 0, 0, 0, 0, 0, 0, 0, 120])) = false by rw [lenS_of]; rfl];simp only [cond_false, gau, Le, u8_d, u16_d, u32_d, gW]
 simp only [show stp 1 [128, 96, 0, 1, 0, 0, 0, 0, 0, 0, 0, 0, 120] 0 = ([128], [96, 0, 1, 0, 0, 0, 0, 0, 0, 0, 0, 120], 0) from rfl, show stp 1 [96, 0, 1, 0, 0, 0, 0, 0, 0, 0, 0, 120] 0 = ([96], [0, 1, 0, 0, 0, 0, 0, 0, 0, 0, 120], 0) from rfl,
  show stp 2 [0, 1, 0, 0, 0, 0, 0, 0, 0, 0, 120] 0 = ([0, 1], [0, 0, 0, 0, 0, 0, 0, 0, 120], 0) from rfl, show stp 4 [0, 0, 0, 0, 0, 0, 0, 0, 120] 0 = ([0, 0, 0, 0], [0, 0, 0, 0, 120], 0) from rfl, show stp 4 [0, 0, 0, 0, 120] 0 = ([0, 0, 0, 0], [120], 0) from rfl,
  show val [128] = 128 from rfl, show val [96] = 96 from rfl]
 rw [Lh (show Under (eqI 0 0) true (NonN 6) from fun _ => by unfold NonN; omega), show qaf (eqI 0 0) (neI (shrI .u8 128 6) 2) false = false by decide];simp only [cond_false];rw [loopF_eq];simp only [gae.loop1];rw [show ltI 0 (qaq .and .u8 128 15) = false by decide];simp only [cond_false, Le, qal];rw [show ltI 0 (qaq .and .u8 128 16) = false by decide];simp only [cond_false, Le, qal, rest_d, show qaf (eqI 0 0) (ltI 0 (qaq .and .u8 128 32)) false = false by decide, show neI 0 0 = false from rfl];exact ⟨_, rfl, rfl, by decide⟩
theorem live_vp : gY (Tt.mk false false 0 (-1) false (-1) (-1) false (-1)) = some (ofB [0]) := by
 unfold gY;simp only [gao, Le];rw [show qaf (qaf (qaf (leqI 0 (-1)) true (leqI 0 (-1))) true (leqI 0 (-1))) true (leqI 0 (-1)) = false by decide];simp only [gay, cond_false, Le, show notB false = true from rfl, cond_true];rw [Lh (show AppB 0 1 1 by decide), show appL [] [qaq .or .u8 (qaq .or .u8 (qaq .or .u8 0 0) 0) (cvtI .u8 (qaq .and .i64 0 7))] = nums [0] by decide, Lh (show TextB _ by decide), str_nums]
theorem live_rtcp : gad [(RtcpPacket.c0 (Tv.mk 1 2))] = some (ofB [129, 206, 0, 2, 0, 0, 0, 1, 0, 0, 0, 2]) := by
 have e1 : gaA [] (RtcpPacket.c0 (Tv.mk 1 2)) = some (nums [0, 0, 0, 1, 0, 0, 0, 2]) := by
  unfold gaA gam RtcpPacket.by;simp only;have := u32w_d (ss := [1, 2]) (by decide) (by decide) [] (by decide);rw [show nums [] = [] from rfl] at this;rw [this];simp only [Le];congr 1
 have e2 : gB (nums [0, 0, 0, 1, 0, 0, 0, 2]) 4 = some (nums [0, 0, 0, 1, 0, 0, 0, 2]) := by
  unfold gB;rw [loopF_eq];simp only [gB.loop1, gR, Le];rw [Lh (show NonZ (maxI 4 1) by decide), show neI (remI (qat (nums [0, 0, 0, 1, 0, 0, 0, 2])) (maxI 4 1)) 0 = false by decide];simp only [cond_false, Le, qal]
 have e3 : gp (nums [129, 206]) [cvtI .u16 (quoI .i64 (qat (nums [0, 0, 0, 1, 0, 0, 0, 2])) 4)] = some (nums [129, 206, 0, 2]) := by
  rw [show quoI .i64 (qat (nums [0, 0, 0, 1, 0, 0, 0, 2])) 4 = 2 by decide, u16w (x := 2) (by omega) (by omega) [129, 206] (by decide)];congr 1
 have e4 : gu (nums [129, 206, 0, 2]) [ofB [0, 0, 0, 1, 0, 0, 0, 2]] = some (nums [129, 206, 0, 2, 0, 0, 0, 1, 0, 0, 0, 2]) := put_d [0, 0, 0, 1, 0, 0, 0, 2] (by decide) (by decide) _ (by decide);unfold gad;rw [loopF_eq];simp only [gad.loop1];rw [show ltI 0 (qat [(RtcpPacket.c0 (Tv.mk 1 2))]) = true from rfl, Lh (show InB 0 (qat [(RtcpPacket.c0 (Tv.mk 1 2))]) from ⟨by omega, by show (0 : Int) < 1; omega⟩), show nthI [(RtcpPacket.c0 (Tv.mk 1 2))] 0 = RtcpPacket.c0 (Tv.mk 1 2) from rfl];simp only [cond_true, RtcpPacket.by, gak, Le, e1, e2];rw [Lh (show AppB (qat ([] : List Int)) 2 1 by decide)];simp only [gR, Le];rw [Lh (show NonZ 4 by decide), show appL [] [qaq .or .u8 128 (qaq .and .u8 1 31), 206] = nums [129, 206] by decide, e3];simp only [Le];rw [Lh (show TextB _ by decide), str_nums, e4];simp only [Le];rw [loopF_eq];simp only [gad.loop1];rw [show ltI (addI .i64 0 1) (qat [(RtcpPacket.c0 (Tv.mk 1 2))]) = false by decide];simp only [cond_false, Le, qal];rw [Lh (show TextB _ by decide), str_nums]
theorem live_ok : gaH = some true := by
 obtain ⟨p, h1, h2, h3⟩ := live_parse;unfold gaH;rw [live_text];simp only [Le, h1, gah, live_vp, live_rtcp, h2, h3, Option.getD_some, Option.isSome_some];rw [show eqS (ofB [120]) ⟨#[120]⟩ = true by rw [show (⟨#[120]⟩ : ByteArray) = ofB [120] from rfl, eqS_b]; simp, lenS_of, lenS_of];rw [Lh (show Under _ _ True from fun _ => trivial), Lh (show Under _ _ True from fun _ => trivial), Lh (show Under _ _ _ from fun _ => ⟨by omega, by show (1 : Int) < 12; omega⟩)];decide
end Go.Proofs
end
section
namespace Go.Proofs
open Go.Ab Go.Lib
theorem wants_mem {S : List Sb} {k : Tc} {w : Int} (h : w ∈ wantsL S k) : ∃ s ∈ S, (lnk s).fOf = k ∧ s.fu = w := by
 unfold wantsL at h;obtain ⟨s, hs, rfl⟩ := List.mem_map.1 h;obtain ⟨h1, h2⟩ := List.mem_filter.1 hs;exact ⟨s, h1, (Tc.eq_iff _ _).1 h2, rfl⟩
theorem antiphonWants_plain (x0 : List Cm) (x1 : Int) : gg x0 x1 = some true := by
 have ew : ∃ w : Int, 0 ≤ w ∧ w < 16 ∧ qaq .and .i64 x1 15 = w := ⟨x1 % 16, by omega, by omega, and_mask' (j := 4) (by omega) x1 15 (by decide)⟩;obtain ⟨w, hw0, hw1, ew⟩ := ew
 obtain ⟨t1, ht1, a1, x, rfl, hR⟩ := walk_rel (body := gg.loop1 x0) (fun i s => ∃ x a, Rl i x a ∧ s = ((i : Int), a.fd.fe, a.fd.fj, a.fb, a.fg, a.fh))
  (fun t => ∃ a x, t = .go (a.fd.fe, a.fd.fj, a.fb, a.fg, a.fh) ∧ Rl (min x0.length 60) x a) (min x0.length 60) (by
   rintro i s hi ⟨x, a, hR, rfl⟩;unfold gg.loop1;simp only
   have e : qaf (ltI (i : Int) (qat x0)) (ltI (i : Int) 60) false = true := by
    rw [qai, ltI_t (by unfold qat; omega), ltI_t (by omega)]; rfl
   have hx : i < x0.length := by omega
   rw [e, cond_true, Lh (inB_at hx), qah hx, Lr (by omega), eta_A];obtain ⟨c, c1, c2, c3, c4⟩ := few_d x0[i];obtain ⟨v, hv, _⟩ := check_some c c2 c3 (by omega);obtain ⟨a', q1, q2, _⟩ := hR.step (by omega) c2 c3 c4 hv;rw [c1, Le, q1, Le];exact ⟨_, rfl, _, a', q2, rfl⟩) (by
   rintro s ⟨x, a, hR, rfl⟩;unfold gg.loop1;simp only
   have e : qaf (ltI ((min x0.length 60 : Nat) : Int) (qat x0)) (ltI ((min x0.length 60 : Nat) : Int) 60) false = false := by
    rw [qai, Bool.and_eq_false_iff];by_cases q : x0.length ≤ 60
    ·exact .inl (ltI_f (by unfold qat; omega))
    ·exact .inr (ltI_f (by omega))
   rw [e, cond_false];exact ⟨_, rfl, a, x, rfl, hR⟩) (s := (0, (stA [] 0 [] []).fd.fe, (stA [] 0 [] []).fd.fj, (stA [] 0 [] []).fb, (stA [] 0 [] []).fg, (stA [] 0 [] []).fh)) ⟨_, _, Rl.new, rfl⟩
 have hR0 := hR;obtain ⟨m, h, rfl⟩ := hR;have hsl := h.slen;have hnn := h.nn
 have w2 : loopF (gg.loop2 x1 ((stA x.L x.nx x.T m).fd.fe, (stA x.L x.nx x.T m).fd.fj, (stA x.L x.nx x.T m).fb, (stA x.L x.nx x.T m).fg, (stA x.L x.nx x.T m).fh)) 0 = some (.go ()) :=
  walk_out (n := 4) (fun i => (i : Int)) (fun i hi => by
   unfold gg.loop2;simp only;rw [ltI_t (by omega), cond_true, ew, wants_d h, Le, Lr (by omega)];have hlen := wants_len x.S ⟨w, (i : Int)⟩
   have w3 : loopF (gg.loop3 x1 (wantsL x.S ⟨w, (i : Int)⟩) (entL x.L, x.nx, trkL x.T, m, srcL x.T)) 0 = some (.go ()) :=
    walk_out (n := (wantsL x.S ⟨w, (i : Int)⟩).length) (fun j => (j : Int)) (fun j hj => by
     obtain ⟨s, s1, s2, s3⟩ := wants_mem (List.getElem_mem hj);have ht := (h.sub s s1).2;have e4 := congrArg Tc.fc s2;simp only [lnk] at e4;rw [e4, s3] at ht;unfold gg.loop3;simp only;rw [ltI_t (by unfold qat; omega), cond_true, Lh (inB_at hj), qah hj, ew, together_d h.tbl, ht, Le, Lr (by omega)];rfl) (by
     unfold gg.loop3;simp only;rw [ltI_f (by unfold qat; omega), cond_false])
   rw [w3]; rfl) (by
   unfold gg.loop2;simp only;rw [ltI_f (by omega), cond_false])
 obtain ⟨a', q1, q2, _⟩ := hR0.step (by omega) (c := .mk 2 noS noS w 0 0 0 false false []) qag qag (by simp) (ck_leave (by omega));have q1 : gl (stA x.L x.nx x.T m) (.mk 2 ⟨#[]⟩ ⟨#[]⟩ w 0 0 0 false false []) = some ((doM x (.mk 2 noS noS w 0 0 0 false false []) 0).2.1, (doM x (.mk 2 noS noS w 0 0 0 false false []) 0).2.2, a') := q1
 have key : eqI (doM x (.mk 2 noS noS w 0 0 0 false false []) 0).2.2 0 = (findL x.L w).isSome ∧ ∀ s ∈ (doM x (.mk 2 noS noS w 0 0 0 false false []) 0).1.S, s.fu ≠ w ∧ s.fc ≠ w := by
  unfold doM;rw [if_neg (by simp), if_neg (by simp)];simp only;cases hf : (findL x.L w).isSome with
  | false =>
    rw [if_pos rfl];refine ⟨rfl, fun s hs => ?_⟩;obtain ⟨_, t1, t2⟩ := tog_ne (h.sub s hs).2;refine ⟨fun e => ?_, fun e => ?_⟩
    ·rw [e, hf] at t1; cases t1
    ·rw [e, hf] at t2; cases t2
  | true =>
    rw [if_neg (by simp), if_pos trivial];refine ⟨rfl, fun s hs => ?_⟩;obtain ⟨t1, t2, t3⟩ := lvS_mem.1 hs;refine ⟨t3, fun e => ?_⟩;obtain ⟨t, t4, t5⟩ := hasT_iff.1 (h.sub s t1).1;obtain ⟨_, t6, t7⟩ := h.own t t4;have e5 := congrArg Tc.ff t5;simp only [keyT] at e5;refine t2 s.fN.toNat (by omega) ?_;simp only [lnk];rw [e, Int.toNat_of_nonneg (by omega)]
 generalize doM x (.mk 2 noS noS w 0 0 0 false false []) 0 = y at q1 q2 key;have hlk := q2.links
 have hy : y.1.S.length ≤ 1000 := by
  obtain ⟨m', h', _⟩ := q2;have := h'.slen;have := h'.nn;omega
 have w4 : loopF (gg.loop4 x1 (y.1.S.map lnk)) 0 = some (.go ()) :=
  walk_out (n := y.1.S.length) (fun i => (i : Int)) (fun i hi => by
   have hat : nthI (y.1.S.map lnk) (i : Int) = lnk y.1.S[i] := by rw [qah (by simpa using hi), List.getElem_map]
   obtain ⟨k1, k2⟩ := key.2 _ (List.getElem_mem hi);unfold gg.loop4;rw [ltI_t (by unfold qat; rw [List.length_map]; omega), cond_true, Lh (inB_at (by simpa using hi)), hat, ew, Lr (by omega)];simp only [lnk];rw [eqI_f k1, eqI_f k2];rfl) (by
   unfold gg.loop4;rw [ltI_f (by unfold qat; rw [List.length_map]; omega), cond_false])
 unfold gg;rw [live_ok, Le, notB_f', cond_false, new_d, Le, ht1];simp only [Le, qal];rw [w2];simp only [Le, qal];rw [ew, peer_d, Le, q1, Le];simp only;rw [key.1, neB_self, cond_false, hlk, Le, w4];rfl
end Go.Proofs
end
