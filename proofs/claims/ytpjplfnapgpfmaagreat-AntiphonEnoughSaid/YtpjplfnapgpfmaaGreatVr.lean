/- What readers and writers of bytes do. No condition. -/
import Derived.Test.YtpjplfnapgpfmaaGreatM03
import Derived.Test.YtpjplfnapgpfmaaGreatM05
import Derived.Laws.Bits64
import Derived.Laws.BitsAllLaws
import Derived.Laws.Cover4
namespace Go.Ab
open Go.Proofs
def bytesOf (s : ByteArray) : List UInt8 := s.data.toList
theorem bytesOf_len (s : ByteArray) : (bytesOf s).length = s.size := Array.length_toList
theorem lenS_b (s : ByteArray) : lenS s = ((bytesOf s).length : Int) := by rw [bytesOf_len]; rfl
theorem bytes_ext {a b : ByteArray} (h : bytesOf a = bytesOf b) : a = b := by
 cases a; cases b
 congr 1
 exact Array.ext' h
theorem eqS_b (a b : ByteArray) : eqS a b = decide (bytesOf a = bytesOf b) := by
 by_cases h : a = b
 ·subst h; rw [(eqS_iff a a).2 rfl]; simp
 ·have : eqS a b = false := by
   cases e : eqS a b with
   | false => rfl
   | true => exact absurd ((eqS_iff a b).1 e) h
  rw [this, decide_eq_false]
  exact fun q => h (bytes_ext q)
theorem cutS_b (s : ByteArray) (l h : Int) : bytesOf (cutS s l h) = ((bytesOf s).drop l.toNat).take (h.toNat - l.toNat) := by
 simp [cutS, bytesOf, ByteArray.data_extract, List.extract_eq_take_drop]
theorem lit_b (l : List UInt8) : bytesOf ⟨l.toArray⟩ = l := by simp [bytesOf]
theorem nums_b (ns : List Int) : bytesOf (strOfNums ns) = ns.map fun n => n.toNat.toUInt8 := by
 simp [strOfNums, bytesOf]
def ofB (l : List UInt8) : ByteArray := ⟨l.toArray⟩
theorem ofB_b (l : List UInt8) : bytesOf (ofB l) = l := lit_b l
theorem lenS_of (l : List UInt8) : lenS (ofB l) = (l.length : Int) := by rw [lenS_b, ofB_b]
def val (l : List UInt8) : Int := l.foldl (fun x b => x * 256 + (b.toNat : Int)) 0
def be : Nat → Int → List UInt8
 | 0, _ => []
 | n + 1, x => be n (x / 256) ++ [(x % 256).toNat.toUInt8]
theorem val_nil : val [] = 0 := rfl
theorem val_snoc (l : List UInt8) (b : UInt8) : val (l ++ [b]) = val l * 256 + (b.toNat : Int) := by simp [val]
theorem be_len : ∀ (n : Nat) (x : Int), (be n x).length = n
 | 0, _ => rfl
 | n + 1, x => by simp [be, be_len n]
theorem byte_of {x : Int} (h0 : 0 ≤ x) (h1 : x < 256) : ((x.toNat.toUInt8).toNat : Int) = x := by
 obtain ⟨n, rfl⟩ : ∃ n : Nat, x = n := ⟨x.toNat, by omega⟩
 simp
 omega
theorem be_val : ∀ (n : Nat) (l : List UInt8), l.length = n → be n (val l) = l
 | 0, l, h => by
   have : l = [] := List.eq_nil_of_length_eq_zero h
   subst this; rfl
 | n + 1, l, h => by
   rcases List.eq_nil_or_concat l with e | ⟨q, b, e⟩
   ·subst e; simp at h
   ·rw [List.concat_eq_append] at e
    subst e
    have hb := b.toNat_lt
    have hq : q.length = n := by simpa using h
    rw [be, val_snoc]
    have e1 : (val q * 256 + (b.toNat : Int)) / 256 = val q := by omega
    have e2 : (val q * 256 + (b.toNat : Int)) % 256 = b.toNat := by omega
    rw [e1, e2, be_val n q hq]
    simp
theorem val_rng : ∀ (n : Nat) (l : List UInt8), l.length = n → 0 ≤ val l ∧ val l < 256 ^ n
 | 0, l, h => by
   have : l = [] := List.eq_nil_of_length_eq_zero h
   subst this; simp [val]
 | n + 1, l, h => by
   rcases List.eq_nil_or_concat l with e | ⟨q, b, e⟩
   ·subst e; simp at h
   ·rw [List.concat_eq_append] at e
    subst e
    have hb := b.toNat_lt
    have ih := val_rng n q (by simpa using h)
    rw [val_snoc, Int.pow_succ]
    omega
def stp (n : Nat) (l : List UInt8) (e : Int) : List UInt8 × List UInt8 × Int :=
 if e ≠ 0 then ([], l, e) else if l.length < n then ([], [], 1) else (l.take n, l.drop n, 0)
def flt (x : Int) (l : List UInt8) (e : Int) : List UInt8 × Int := if e = 0 then ([], x) else (l, e)
theorem stp_err {n : Nat} {l : List UInt8} {e : Int} (h : e ≠ 0) : stp n l e = ([], l, e) := by unfold stp; rw [if_pos h]
theorem stp_short {n : Nat} {l : List UInt8} (h : l.length < n) : stp n l 0 = ([], [], 1) := by unfold stp; rw [if_neg (by simp), if_pos h]
theorem stp_ok {n : Nat} {l : List UInt8} (h : n ≤ l.length) : stp n l 0 = (l.take n, l.drop n, 0) := by unfold stp; rw [if_neg (by simp), if_neg (by omega)]
end Go.Ab
namespace Go.Proofs
open Go.Ab
theorem cutS_ofB (l : List UInt8) (a b : Int) : cutS (ofB l) a b = ofB ((l.drop a.toNat).take (b.toNat - a.toNat)) := bytes_ext (by rw [cutS_b, ofB_b, ofB_b])
theorem numsOf_ofB (l : List UInt8) : numsOf (ofB l) = l.map fun b => (b.toNat : Int) := by
 unfold numsOf
 rw [show (ofB l).data.toList = l from ofB_b l]
theorem wrapU64 {x : Int} (h0 : 0 ≤ x) (h1 : x < 18446744073709551616) : IntKind.u64.wrap x = x := by
 rw [IntKind.wrap_u64]; omega
theorem fail_d (l : List UInt8) (e x : Int) (hx : x ≠ 0) : gJ (Tk.mk (ofB l) e) x = some (Tk.mk (ofB (flt x l e).1) (flt x l e).2) := by
 unfold gJ flt
 by_cases h : e = 0
 ·subst h
  have : pickB (eqI 0 0) (neI x 0) false = true := by rw [pickB_and, eqI_t rfl, neI_t hx]; rfl
  simp only [this, cond_true, if_true]
  rfl
 ·have : pickB (eqI e 0) (neI x 0) false = false := by rw [pickB_and, eqI_f h]; rfl
  simp only [this, cond_false, h, if_false]
theorem bytes_d (n : Nat) (l : List UInt8) (e : Int) : gz (Tk.mk (ofB l) e) (n : Int) = some (ofB (stp n l e).1, Tk.mk (ofB (stp n l e).2.1) (stp n l e).2.2) := by
 unfold gz
 by_cases h : e = 0
 ·subst h
  rw [neI_f rfl]
  simp only [cond_false]
  rw [ltI_f (by omega)]
  simp only [cond_false, lenS_of]
  by_cases h1 : l.length < n
  ·rw [ltI_t (by omega), stp_short h1, fail_d l 0 1 (by omega)]
   rfl
  ·rw [ltI_f (by omega), stp_ok (by omega), Lf (show CutB _ _ _ from ⟨by omega, by omega, by omega⟩), Lf (show CutB _ _ _ from ⟨by omega, by omega, by omega⟩), cutS_ofB, cutS_ofB]
   simp only [cond_false, Int.toNat_natCast, Int.toNat_zero, List.drop_zero, Nat.sub_zero]
   congr 3
   rw [List.take_of_length_le (by rw [List.length_drop]; omega)]
 ·rw [neI_t h, stp_err h]
  rfl
theorem orB {x c : Int} (h0 : 0 ≤ x) (h1 : x < 72057594037927936) (c0 : 0 ≤ c) (c1 : c < 256) : bitsOp .or .u64 (shlI .u64 x 8) (cvtI .u64 c) = x * 256 + c := by
 obtain ⟨n, rfl⟩ : ∃ n : Nat, x = n := ⟨x.toNat, by omega⟩
 obtain ⟨m, rfl⟩ : ∃ m : Nat, c = m := ⟨c.toNat, by omega⟩
 have e1 : shlI .u64 (n : Int) 8 = ((n * 256 : Nat) : Int) := by
  unfold shlI
  rw [show (2 : Int) ^ (min (8 : Int).toNat IntKind.u64.bits) = 256 by decide, wrapU64 (by omega) (by omega)]
  omega
 have e2 : cvtI .u64 (m : Int) = (m : Int) := by unfold cvtI; exact wrapU64 (by omega) (by omega)
 rw [e1, e2]
 show IntKind.u64.wrap (((BitVec.ofInt 64 ((n * 256 : Nat) : Int) ||| BitVec.ofInt 64 (m : Int)).toNat : Nat) : Int) = _
 rw [BitVec.toNat_or, BitVec.ofInt_natCast, BitVec.ofInt_natCast, BitVec.toNat_ofNat, BitVec.toNat_ofNat, Nat.mod_eq_of_lt (by omega), Nat.mod_eq_of_lt (by omega)]
 have : n * 256 ||| m = n * 256 + m := by
  have := Nat.two_pow_add_eq_or_of_lt (i := 8) (b := m) (by omega) n
  rw [Nat.mul_comm n 256]
  exact this.symm
 rw [this, wrapU64 (by omega) (by omega)]
 omega
theorem num_loop (b : List UInt8) (R : Tk) (hb : b.length ≤ 8) : ∀ (t p : List UInt8), b = p ++ t →
  loopF (gk.loop1 (ofB b, R)) ((p.length : Int), val p) = some (.go (val b))
 | [], p, h => by
   rw [loopF_eq]
   rw [List.append_nil] at h
   simp only [gk.loop1, numsOf_ofB]
   rw [ltI_f (by unfold lenL; rw [List.length_map, h]; omega), h]
   rfl
 | x :: t, p, h => by
   have hL : b.length = p.length + (t.length + 1) := by rw [h]; simp
   have hr := val_rng p.length p rfl
   have hx := x.toNat_lt
   have hp : (256 : Int) ^ p.length ≤ 72057594037927936 := by
    have : p.length = 0 ∨ p.length = 1 ∨ p.length = 2 ∨ p.length = 3 ∨ p.length = 4 ∨ p.length = 5 ∨ p.length = 6 ∨ p.length = 7 := by omega
    rcases this with h | h | h | h | h | h | h | h <;> rw [h] <;> decide
   rw [loopF_eq]
   simp only [gk.loop1, numsOf_ofB]
   rw [ltI_t (by unfold lenL; rw [List.length_map]; omega), Lf (show InB _ _ from ⟨by omega, by unfold lenL; rw [List.length_map]; omega⟩), Lf (show NonN 8 by unfold NonN; omega)]
   have hn : nthI (b.map fun b => (b.toNat : Int)) (p.length : Int) = (x.toNat : Int) := by
    unfold nthI
    rw [h]
    simp
   rw [hn, orB hr.1 (by omega) (by omega) (by omega), addI_n (by omega) (by omega)]
   have ih := num_loop b R hb t (p ++ [x]) (by rw [h]; simp)
   rw [val_snoc] at ih
   simp only [cond_true]
   rw [← ih]
   congr 2
   simp
theorem num_d {n : Nat} (h1 : 1 ≤ n) (h8 : n ≤ 8) (l : List UInt8) (e : Int) : gk (Tk.mk (ofB l) e) (n : Int) = some (val (stp n l e).1, Tk.mk (ofB (stp n l e).2.1) (stp n l e).2.2) := by
 unfold gk
 have hm : minI (maxI (n : Int) 1) 8 = (n : Int) := by rw [minI_d, maxI_d]; omega
 rw [hm, bytes_d]
 simp only [Ld]
 have hl : (stp n l e).1.length ≤ 8 := by
  unfold stp
  split
  ·simp
  ·split
   ·simp
   ·simp only [List.length_take]; omega
 have := num_loop (stp n l e).1 (Tk.mk (ofB (stp n l e).2.1) (stp n l e).2.2) hl (stp n l e).1 [] rfl
 simp only [List.length_nil, val_nil] at this
 rw [show ((0 : Nat) : Int) = 0 from rfl] at this
 rw [this]
 rfl
theorem stp_rng (n : Nat) (l : List UInt8) (e : Int) : 0 ≤ val (stp n l e).1 ∧ val (stp n l e).1 < 256 ^ n := by
 have hp : (0 : Int) < 256 ^ n := Int.pow_pos (by omega)
 unfold stp
 split
 ·exact ⟨by simp [val], by simpa [val] using hp⟩
 ·split
  ·exact ⟨by simp [val], by simpa [val] using hp⟩
  ·exact val_rng n _ (by rw [List.length_take]; omega)
theorem u8_d (l : List UInt8) (e : Int) : gad (Tk.mk (ofB l) e) = some (val (stp 1 l e).1, Tk.mk (ofB (stp 1 l e).2.1) (stp 1 l e).2.2) := by
 unfold gad
 have := num_d (n := 1) (by omega) (by omega) l e
 rw [show ((1 : Nat) : Int) = 1 from rfl] at this
 rw [this]
 have hr := stp_rng 1 l e
 simp only [Ld]
 unfold cvtI
 rw [IntKind.wrap_u8', Int.emod_eq_of_lt hr.1 (by have := hr.2; simpa using this)]
theorem u16_d (l : List UInt8) (e : Int) : gN (Tk.mk (ofB l) e) = some (val (stp 2 l e).1, Tk.mk (ofB (stp 2 l e).2.1) (stp 2 l e).2.2) := by
 unfold gN
 have := num_d (n := 2) (by omega) (by omega) l e
 rw [show ((2 : Nat) : Int) = 2 from rfl] at this
 rw [this]
 have hr := stp_rng 2 l e
 simp only [Ld]
 unfold cvtI
 rw [IntKind.wrap_u16, Int.emod_eq_of_lt hr.1 (by have := hr.2; simpa using this)]
theorem u32_d (l : List UInt8) (e : Int) : gO (Tk.mk (ofB l) e) = some (val (stp 4 l e).1, Tk.mk (ofB (stp 4 l e).2.1) (stp 4 l e).2.2) := by
 unfold gO
 have := num_d (n := 4) (by omega) (by omega) l e
 rw [show ((4 : Nat) : Int) = 4 from rfl] at this
 rw [this]
 have hr := stp_rng 4 l e
 simp only [Ld]
 unfold cvtI
 rw [IntKind.wrap_u32', Int.emod_eq_of_lt hr.1 (by have := hr.2; simpa using this)]
def nums (l : List UInt8) : List Int := l.map fun b => (b.toNat : Int)
theorem nums_app (a b : List UInt8) : nums (a ++ b) = nums a ++ nums b := List.map_append
theorem nums_len (a : List UInt8) : lenL (nums a) = (a.length : Int) := by unfold lenL nums; rw [List.length_map]
theorem str_nums (l : List UInt8) : strOfNums (nums l) = ofB l := bytes_ext (by
 rw [nums_b, ofB_b]
 unfold nums
 rw [List.map_map]
 have : ∀ b : UInt8, ((fun n : Int => n.toNat.toUInt8) ∘ fun b : UInt8 => (b.toNat : Int)) b = b := fun b => by simp
 rw [List.map_congr_left fun b _ => this b, List.map_id'])
theorem numsOf_of (l : List UInt8) : numsOf (ofB l) = nums l := numsOf_ofB l
theorem be_high : ∀ (n : Nat) (x : Int), be (n + 1) x = ((x / 256 ^ n) % 256).toNat.toUInt8 :: be n x
 | 0, x => by simp [be]
 | n + 1, x => by
   rw [be, be_high n (x / 256), be]
   have : x / 256 / 256 ^ n = x / 256 ^ (n + 1) := by
    rw [Int.pow_succ, Int.mul_comm, ← Int.ediv_ediv_of_nonneg (by omega)]
   rw [this]
   rfl
theorem cvtu8 (x : Int) : cvtI .u8 x = x % 256 := by unfold cvtI; rw [IntKind.wrap_u8']
theorem wnum_loop2 (x : Int) (s1 : Int × List Int) (hs : s1.1 = 0) (h0 : 0 ≤ x) : ∀ (m : Nat) (acc : List UInt8), m ≤ 8 → acc.length + m ≤ 1000000 →
  loopF (gi.loop2 [x] s1) ((m : Int) - 1, nums acc) = some (.go (nums (acc ++ be m x)))
 | 0, acc, _, _ => by
   rw [loopF_eq]
   simp only [gi.loop2]
   rw [leI_f (by omega)]
   simp [be]
 | m + 1, acc, hm, ha => by
   rw [loopF_eq]
   simp only [gi.loop2]
   have e1 : (((m + 1 : Nat) : Int) - 1) = (m : Int) := by omega
   rw [e1, leI_t (by omega), mulI_n (by omega) (by omega), Lf (show NonN _ by unfold NonN; omega), Lf (show AppB _ _ _ from ⟨by rw [nums_len]; omega, by rw [nums_len]; omega⟩), subI_n (by omega) (by omega), hs]
   have e2 : cvtI .u8 (shrI .u64 (nthI [x] 0) (8 * (m : Int))) = (((x / 256 ^ m) % 256).toNat.toUInt8.toNat : Int) := by
    rw [cvtu8, byte_of (by omega) (by omega)]
    unfold shrI
    rw [show nthI [x] 0 = x from rfl]
    have : (2 : Int) ^ (min (8 * (m : Int)).toNat IntKind.u64.bits) = 256 ^ m := by
     have e3 : min (8 * (m : Int)).toNat IntKind.u64.bits = 8 * m := by
      have : IntKind.u64.bits = 64 := rfl
      omega
     rw [e3, Int.pow_mul]
     rfl
    rw [this, Int.fdiv_eq_ediv_of_nonneg _ (by exact Int.pow_nonneg (by omega))]
   rw [e2]
   simp only [cond_true]
   have e4 : appL (nums acc) [(((x / 256 ^ m) % 256).toNat.toUInt8.toNat : Int)] = nums (acc ++ [((x / 256 ^ m) % 256).toNat.toUInt8]) := by
    rw [nums_app]; rfl
   rw [e4, wnum_loop2 x s1 hs h0 m _ (by omega) (by simp; omega), be_high]
   simp
theorem wnum_d {n : Nat} (h1 : 1 ≤ n) (h8 : n ≤ 8) {x : Int} (h0 : 0 ≤ x) (acc : List UInt8) (ha : acc.length ≤ 900000) : gi (nums acc) (n : Int) [x] = some (nums (acc ++ be n x)) := by
 unfold gi
 have hm : minI (maxI (n : Int) 1) 8 = (n : Int) := by rw [minI_d, maxI_d]; omega
 rw [loopF_eq]
 simp only [gi.loop1, hm]
 rw [ltI_t (show (0 : Int) < lenL [x] by show (0 : Int) < 1; omega), Lf (show InB 0 (lenL [x]) from ⟨by omega, by show (0 : Int) < 1; omega⟩), subI_n (by omega) (by omega), wnum_loop2 x _ rfl h0 n acc (by omega) (by omega)]
 simp only [cond_true, Ld, flC_go]
 rw [addI_n (by omega) (by omega), loopF_eq]
 simp only [gi.loop1]
 rw [ltI_f (show ¬ (0 + 1 : Int) < lenL [x] by show ¬ ((0 : Int) + 1 < 1); omega)]
 rfl
theorem cvtu64 {x : Int} (h0 : 0 ≤ x) (h1 : x < 18446744073709551616) : cvtI .u64 x = x := by unfold cvtI; exact wrapU64 h0 h1
theorem cvtu16 {x : Int} (h0 : 0 ≤ x) (h1 : x < 65536) : cvtI .u16 x = x := by unfold cvtI; rw [IntKind.wrap_u16]; omega
theorem u16w {x : Int} (h0 : 0 ≤ x) (h1 : x < 65536) (acc : List UInt8) (ha : acc.length ≤ 900000) : gj (nums acc) [cvtI .u16 x] = some (nums (acc ++ be 2 x)) := by
 rw [cvtu16 h0 h1]
 unfold gj
 rw [loopF_eq]
 simp only [gj.loop1]
 have := wnum_d (n := 2) (by omega) (by omega) h0 acc ha
 rw [show ((2 : Nat) : Int) = 2 from rfl] at this
 rw [ltI_t (show (0 : Int) < lenL [x] by show (0 : Int) < 1; omega), Lf (show InB 0 (lenL [x]) from ⟨by omega, by show (0 : Int) < 1; omega⟩), show nthI [x] 0 = x from rfl, cvtu64 h0 (by omega), this]
 simp only [cond_true, Ld]
 rw [addI_n (by omega) (by omega), loopF_eq]
 simp only [gj.loop1]
 rw [ltI_f (show ¬ (0 + 1 : Int) < lenL [x] by show ¬ ((0 : Int) + 1 < 1); omega)]
 rfl
theorem u32w (ss : List Int) (hs : ∀ x ∈ ss, 0 ≤ x ∧ x < 4294967296) (hl : ss.length < 256) : ∀ (t p : List Int) (acc : List UInt8), ss = p ++ t → acc.length + 4 * t.length ≤ 900000 →
  loopF (gl.loop1 ss) ((p.length : Int), nums acc) = some (.go (nums (acc ++ t.flatMap (be 4))))
 | [], p, acc, h, ha => by
   rw [loopF_eq]
   simp only [gl.loop1]
   rw [ltI_f (by unfold lenL; rw [h]; simp)]
   simp
 | x :: t, p, acc, h, ha => by
   have hx := hs x (by rw [h]; simp)
   have hL : ss.length = p.length + (t.length + 1) := by rw [h]; simp
   rw [List.length_cons] at ha
   rw [loopF_eq]
   simp only [gl.loop1]
   have hn : nthI ss (p.length : Int) = x := by
    unfold nthI
    rw [h]
    simp
   have := wnum_d (n := 4) (by omega) (by omega) hx.1 acc (by omega)
   rw [show ((4 : Nat) : Int) = 4 from rfl] at this
   rw [ltI_t (by unfold lenL; omega), Lf (show InB _ _ from ⟨by omega, by unfold lenL; omega⟩), hn, cvtu64 hx.1 (by omega), this]
   simp only [cond_true, Ld]
   rw [addI_n (by omega) (by omega)]
   have ih := u32w ss hs hl t (p ++ [x]) (acc ++ be 4 x) (by rw [h]; simp) (by rw [List.length_append, be_len]; omega)
   rw [List.flatMap_cons, ← List.append_assoc, ← ih]
   congr 2
   simp
theorem u32w_d {ss : List Int} (hs : ∀ x ∈ ss, 0 ≤ x ∧ x < 4294967296) (hl : ss.length < 256) (acc : List UInt8) (ha : acc.length ≤ 10000) : gl (nums acc) ss = some (nums (acc ++ ss.flatMap (be 4))) := by
 unfold gl
 have := u32w ss hs hl ss [] acc rfl (by omega)
 rw [show (([] : List Int).length : Int) = 0 from rfl] at this
 rw [this]
 rfl
theorem put_d (s : List UInt8) (hs : 0 < s.length) (hl : s.length < 256) (acc : List UInt8) (ha : acc.length ≤ 900000) : gp (nums acc) [ofB s] = some (nums (acc ++ s)) := by
 unfold gp
 rw [loopF_eq]
 simp only [gp.loop1]
 rw [ltI_t (show (0 : Int) < lenL [ofB s] by show (0 : Int) < 1; omega), Lf (show InB 0 (lenL [ofB s]) from ⟨by omega, by show (0 : Int) < 1; omega⟩), show nthI [ofB s] 0 = ofB s from rfl, lenS_of, Lf (by omega), Lf (show AppB _ _ _ from ⟨by rw [nums_len]; omega, by rw [nums_len]; omega⟩), numsOf_of]
 simp only [cond_true]
 rw [addI_n (by omega) (by omega), loopF_eq]
 simp only [gp.loop1]
 rw [ltI_f (show ¬ (0 + 1 : Int) < lenL [ofB s] by show ¬ ((0 : Int) + 1 < 1); omega), ← show appL (nums acc) (nums s) = nums (acc ++ s) from (nums_app acc s).symm]
 rfl
end Go.Proofs
