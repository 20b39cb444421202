/- The two readers read as the programs do. No condition. -/
import Derived.Test.YtijaigjfacfhnaaDoorVa
import Derived.Test.YtijaigjfacfhnaaDoorM05
import Derived.Test.YtijaigjfacfhnaaDoorM02
import Derived.Laws.Bits64
import Derived.Laws.BitsAllLaws
namespace Go.Proofs
open Go.Ab

theorem cutS_ofB (l : List UInt8) (a b : Int) : cutS (ofB l) a b = ofB ((l.drop a.toNat).take (b.toNat - a.toNat)) := bytes_ext (by rw [cutS_b, ofB_b, ofB_b])
theorem nil_ofB : (⟨#[]⟩ : ByteArray) = ofB [] := rfl
theorem numsOf_ofB (l : List UInt8) : numsOf (ofB l) = l.map fun b => (b.toNat : Int) := by
  unfold numsOf
  rw [show (ofB l).data.toList = l from ofB_b l]
theorem eqS_ofB (l : List UInt8) : eqS (ofB l) ⟨#[]⟩ = l.isEmpty := by
  rw [eqS_b, nil_ofB, ofB_b, ofB_b]
  cases l <;> simp
theorem wrapU64 {x : Int} (h0 : 0 ≤ x) (h1 : x < 18446744073709551616) : IntKind.u64.wrap x = x := by
  rw [IntKind.wrap_u64]; omega

/-! ### octet.Reader -/
theorem fail_d (l : List UInt8) (e x : Int) (hx : x ≠ 0) : gOctetReaderFail (OctetReader.mk (ofB l) e) x = some (OctetReader.mk (ofB (flt x l e).1) (flt x l e).2) := by
  unfold gOctetReaderFail flt
  by_cases h : e = 0
  · subst h
    have : pickB (eqI 0 0) (neI x 0) false = true := by rw [pickB_and, eqI_t rfl, neI_t hx]; rfl
    simp only [this, cond_true, if_true]
    rfl
  · have : pickB (eqI e 0) (neI x 0) false = false := by rw [pickB_and, eqI_f h]; rfl
    simp only [this, cond_false, h, if_false]
theorem bytes_d (n : Nat) (l : List UInt8) (e : Int) : gOctetReaderBytes (OctetReader.mk (ofB l) e) (n : Int) = some (ofB (stp n l e).1, OctetReader.mk (ofB (stp n l e).2.1) (stp n l e).2.2) := by
  unfold gOctetReaderBytes
  by_cases h : e = 0
  · subst h
    rw [neI_f rfl]
    simp only [cond_false]
    rw [ltI_f (by omega)]
    simp only [cond_false, lenS_of]
    by_cases h1 : l.length < n
    · rw [ltI_t (by omega), stp_short h1, fail_d l 0 1 (by omega)]
      rfl
    · rw [ltI_f (by omega), stp_ok (by omega), need_t (show CutB _ _ _ from ⟨by omega, by omega, by omega⟩), need_t (show CutB _ _ _ from ⟨by omega, by omega, by omega⟩), cutS_ofB, cutS_ofB]
      simp only [cond_false, Int.toNat_natCast, Int.toNat_zero, List.drop_zero, Nat.sub_zero]
      congr 3
      rw [List.take_of_length_le (by rw [List.length_drop]; omega)]
  · rw [neI_t h, stp_err h]
    rfl
theorem orB {x c : Int} (h0 : 0 ≤ x) (h1 : x < 72057594037927936) (c0 : 0 ≤ c) (c1 : c < 256) : bitsOp .or .u64 (shlI .u64 x 8) (cvtI .u64 c) = x * 256 + c := by
  obtain ⟨n, rfl⟩ : ∃ n : Nat, x = n := ⟨x.toNat, by omega⟩
  obtain ⟨m, rfl⟩ : ∃ m : Nat, c = m := ⟨c.toNat, by omega⟩
  have e1 : shlI .u64 (n : Int) 8 = ((n * 256 : Nat) : Int) := by
    unfold shlI
    rw [show (2 : Int) ^ (min (8 : Int).toNat IntKind.u64.bits) = 256 by decide, wrapU64 (by omega) (by omega)]
    omega
  have e2 : cvtI .u64 (m : Int) = (m : Int) := by unfold cvtI; exact wrapU64 (by omega) (by omega)
  rw [e1, e2]
  show IntKind.u64.wrap (((BitVec.ofInt 64 ((n * 256 : Nat) : Int) ||| BitVec.ofInt 64 (m : Int)).toNat : Nat) : Int) = _
  rw [BitVec.toNat_or, BitVec.ofInt_natCast, BitVec.ofInt_natCast, BitVec.toNat_ofNat, BitVec.toNat_ofNat, Nat.mod_eq_of_lt (by omega), Nat.mod_eq_of_lt (by omega)]
  have : n * 256 ||| m = n * 256 + m := by
    have := Nat.two_pow_add_eq_or_of_lt (i := 8) (b := m) (by omega) n
    rw [Nat.mul_comm n 256]
    exact this.symm
  rw [this, wrapU64 (by omega) (by omega)]
  omega

theorem num_loop (b : List UInt8) (R : OctetReader) (hb : b.length ≤ 8) : ∀ (t p : List UInt8), b = p ++ t →
    loopF (gOctetReaderNum.loop1 (ofB b, R)) ((p.length : Int), val p) = some (.go (val b))
  | [], p, h => by
    rw [loopF_eq]
    rw [List.append_nil] at h
    simp only [gOctetReaderNum.loop1, numsOf_ofB]
    rw [ltI_f (by unfold lenL; rw [List.length_map, h]; omega), h]
    rfl
  | x :: t, p, h => by
    have hL : b.length = p.length + (t.length + 1) := by rw [h]; simp
    have hr := val_rng p.length p rfl
    have hx := x.toNat_lt
    have hp : (256 : Int) ^ p.length ≤ 72057594037927936 := by
      have : p.length = 0 ∨ p.length = 1 ∨ p.length = 2 ∨ p.length = 3 ∨ p.length = 4 ∨ p.length = 5 ∨ p.length = 6 ∨ p.length = 7 := by omega
      rcases this with h | h | h | h | h | h | h | h <;> rw [h] <;> decide
    rw [loopF_eq]
    simp only [gOctetReaderNum.loop1, numsOf_ofB]
    rw [ltI_t (by unfold lenL; rw [List.length_map]; omega), need_t (show InB _ _ from ⟨by omega, by unfold lenL; rw [List.length_map]; omega⟩), need_t (show NonN 8 by unfold NonN; omega)]
    have hn : nthI (b.map fun b => (b.toNat : Int)) (p.length : Int) = (x.toNat : Int) := by
      unfold nthI
      rw [h]
      simp
    rw [hn, orB hr.1 (by omega) (by omega) (by omega), addI_n (by omega) (by omega)]
    have ih := num_loop b R hb t (p ++ [x]) (by rw [h]; simp)
    rw [val_snoc] at ih
    simp only [cond_true]
    rw [← ih]
    congr 2
    simp
theorem num_d {n : Nat} (h1 : 1 ≤ n) (h8 : n ≤ 8) (l : List UInt8) (e : Int) : gOctetReaderNum (OctetReader.mk (ofB l) e) (n : Int) = some (val (stp n l e).1, OctetReader.mk (ofB (stp n l e).2.1) (stp n l e).2.2) := by
  unfold gOctetReaderNum
  have hm : minI (maxI (n : Int) 1) 8 = (n : Int) := by rw [minI_d, maxI_d]; omega
  rw [hm, bytes_d]
  simp only [bind_so]
  have hl : (stp n l e).1.length ≤ 8 := by
    unfold stp
    split
    · simp
    · split
      · simp
      · simp only [List.length_take]; omega
  have := num_loop (stp n l e).1 (OctetReader.mk (ofB (stp n l e).2.1) (stp n l e).2.2) hl (stp n l e).1 [] rfl
  simp only [List.length_nil, val_nil] at this
  rw [show ((0 : Nat) : Int) = 0 from rfl] at this
  rw [this]
  rfl
theorem stp_rng (n : Nat) (l : List UInt8) (e : Int) : 0 ≤ val (stp n l e).1 ∧ val (stp n l e).1 < 256 ^ n := by
  have hp : (0 : Int) < 256 ^ n := Int.pow_pos (by omega)
  unfold stp
  split
  · exact ⟨by simp [val], by simpa [val] using hp⟩
  · split
    · exact ⟨by simp [val], by simpa [val] using hp⟩
    · exact val_rng n _ (by rw [List.length_take]; omega)
theorem u8_d (l : List UInt8) (e : Int) : gOctetReaderU8 (OctetReader.mk (ofB l) e) = some (val (stp 1 l e).1, OctetReader.mk (ofB (stp 1 l e).2.1) (stp 1 l e).2.2) := by
  unfold gOctetReaderU8
  have := num_d (n := 1) (by omega) (by omega) l e
  rw [show ((1 : Nat) : Int) = 1 from rfl] at this
  rw [this]
  have hr := stp_rng 1 l e
  simp only [bind_so]
  unfold cvtI
  rw [IntKind.wrap_u8', Int.emod_eq_of_lt hr.1 (by have := hr.2; simpa using this)]
theorem u16_d (l : List UInt8) (e : Int) : gOctetReaderU16 (OctetReader.mk (ofB l) e) = some (val (stp 2 l e).1, OctetReader.mk (ofB (stp 2 l e).2.1) (stp 2 l e).2.2) := by
  unfold gOctetReaderU16
  have := num_d (n := 2) (by omega) (by omega) l e
  rw [show ((2 : Nat) : Int) = 2 from rfl] at this
  rw [this]
  have hr := stp_rng 2 l e
  simp only [bind_so]
  unfold cvtI
  rw [IntKind.wrap_u16, Int.emod_eq_of_lt hr.1 (by have := hr.2; simpa using this)]
theorem u32_d (l : List UInt8) (e : Int) : gOctetReaderU32 (OctetReader.mk (ofB l) e) = some (val (stp 4 l e).1, OctetReader.mk (ofB (stp 4 l e).2.1) (stp 4 l e).2.2) := by
  unfold gOctetReaderU32
  have := num_d (n := 4) (by omega) (by omega) l e
  rw [show ((4 : Nat) : Int) = 4 from rfl] at this
  rw [this]
  have hr := stp_rng 4 l e
  simp only [bind_so]
  unfold cvtI
  rw [IntKind.wrap_u32', Int.emod_eq_of_lt hr.1 (by have := hr.2; simpa using this)]
theorem end_d (l : List UInt8) (e : Int) : ∃ R, gOctetReaderEnd (OctetReader.mk (ofB l) e) = some ((if l ≠ [] ∧ e = 0 then 2 else e), R) := by
  unfold gOctetReaderEnd
  simp only [neS_b, eqS_ofB]
  cases l with
  | nil => exact ⟨_, rfl⟩
  | cons a t =>
    simp only [List.isEmpty_cons, Bool.not_false, cond_true, fail_d (a :: t) e 2 (by omega), bind_so, flC_go]
    refine ⟨OctetReader.mk (ofB (flt 2 (a :: t) e).1) (flt 2 (a :: t) e).2, ?_⟩
    congr 2
    unfold flt
    by_cases h : e = 0 <;> simp [h]

/-! ### The document's reader -/
theorem rbytes_d (n : Nat) (l : List UInt8) (e : Int) : gRef02Bytes (Antiphonref02Reader.mk (ofB l) e) (n : Int) = some (Antiphonref02Reader.mk (ofB (stp n l e).2.1) (stp n l e).2.2, ofB (stp n l e).1) := by
  unfold gRef02Bytes
  by_cases h : e = 0
  · subst h
    rw [neI_f rfl]
    simp only [cond_false]
    rw [ltI_f (by omega)]
    simp only [cond_false, lenS_of]
    by_cases h1 : l.length < n
    · rw [ltI_t (by omega), stp_short h1]
      rfl
    · rw [ltI_f (by omega), stp_ok (by omega), need_t (show CutB _ _ _ from ⟨by omega, by omega, by omega⟩), need_t (show CutB _ _ _ from ⟨by omega, by omega, by omega⟩), cutS_ofB, cutS_ofB]
      simp only [cond_false, Int.toNat_natCast, Int.toNat_zero, List.drop_zero, Nat.sub_zero]
      congr 3
      rw [List.take_of_length_le (by rw [List.length_drop]; omega)]
  · rw [neI_t h, stp_err h]
    rfl
theorem value_loop (b : List UInt8) (hb : b.length ≤ 7) : ∀ (t p : List UInt8), b = p ++ t →
    loopF (gRef02Value.loop1 (ofB b)) ((p.length : Int), val p) = some (.go (val b))
  | [], p, h => by
    rw [loopF_eq]
    rw [List.append_nil] at h
    simp only [gRef02Value.loop1, lenS_of]
    rw [ltI_f (by rw [h]; omega), h]
    rfl
  | x :: t, p, h => by
    have hL : b.length = p.length + (t.length + 1) := by rw [h]; simp
    have hr := val_rng p.length p rfl
    have hx := x.toNat_lt
    have hp : (256 : Int) ^ p.length ≤ 281474976710656 := by
      have : p.length = 0 ∨ p.length = 1 ∨ p.length = 2 ∨ p.length = 3 ∨ p.length = 4 ∨ p.length = 5 ∨ p.length = 6 := by omega
      rcases this with h | h | h | h | h | h | h <;> rw [h] <;> decide
    rw [loopF_eq]
    simp only [gRef02Value.loop1, lenS_of]
    rw [ltI_t (by omega), need_t (show InB _ _ from ⟨by omega, by omega⟩)]
    have hn : idxS (ofB b) (p.length : Int) = (x.toNat : Int) := by
      unfold idxS
      rw [show (ofB b).data.toList = b from ofB_b b, h]
      simp
    have e1 : cvtI .u64 (x.toNat : Int) = (x.toNat : Int) := by unfold cvtI; exact wrapU64 (by omega) (by omega)
    have e2 : mulI .u64 (val p) 256 = val p * 256 := by unfold mulI; exact wrapU64 (by omega) (by omega)
    have e3 : addI .u64 (val p * 256) (x.toNat : Int) = val p * 256 + (x.toNat : Int) := by unfold addI; exact wrapU64 (by omega) (by omega)
    rw [hn, e1, e2, e3, addI_n (by omega) (by omega)]
    have ih := value_loop b hb t (p ++ [x]) (by rw [h]; simp)
    rw [val_snoc] at ih
    simp only [cond_true]
    rw [← ih]
    congr 2
    simp
theorem take_d {n : Nat} (h1 : 1 ≤ n) (h8 : n ≤ 7) (l : List UInt8) (e : Int) : gRef02Take (Antiphonref02Reader.mk (ofB l) e) (n : Int) = some (Antiphonref02Reader.mk (ofB (stp n l e).2.1) (stp n l e).2.2, val (stp n l e).1) := by
  unfold gRef02Take
  have hm : minI (maxI (n : Int) 1) 8 = (n : Int) := by rw [minI_d, maxI_d]; omega
  rw [hm, rbytes_d]
  simp only [bind_so]
  have hl : (stp n l e).1.length ≤ 7 := by
    unfold stp
    split
    · simp
    · split
      · simp
      · simp only [List.length_take]; omega
  have := value_loop (stp n l e).1 hl (stp n l e).1 [] rfl
  simp only [List.length_nil, val_nil] at this
  rw [show ((0 : Nat) : Int) = 0 from rfl] at this
  unfold gRef02Value
  rw [this]
  rfl
theorem rfail_d (l : List UInt8) (e x : Int) (hx : x ≠ 0) : gRef02Fail (Antiphonref02Reader.mk (ofB l) e) x = some (Antiphonref02Reader.mk (ofB (flt x l e).1) (flt x l e).2) := by
  unfold gRef02Fail flt
  by_cases h : e = 0
  · subst h
    have : pickB (eqI 0 0) (neI x 0) false = true := by rw [pickB_and, eqI_t rfl, neI_t hx]; rfl
    simp only [this, cond_true, if_true]
    rfl
  · have : pickB (eqI e 0) (neI x 0) false = false := by rw [pickB_and, eqI_f h]; rfl
    simp only [this, cond_false, h, if_false]
theorem rend_d (l : List UInt8) (e : Int) : gRef02End (Antiphonref02Reader.mk (ofB l) e) = some (if l ≠ [] ∧ e = 0 then 2 else e) := by
  unfold gRef02End
  simp only [neS_b, eqS_ofB, pickB_and]
  by_cases h : e = 0
  · subst h
    rw [eqI_t rfl]
    cases l <;> rfl
  · rw [eqI_f h]
    simp [h]
end Go.Proofs
