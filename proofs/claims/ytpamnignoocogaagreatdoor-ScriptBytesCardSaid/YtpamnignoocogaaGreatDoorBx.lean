/- Bytes as digits, and back: the plain law of ScriptBytes. No condition. -/
import Derived.Test.YtpamnignoocogaaGreatDoorM02
import Derived.Test.YtpamnignoocogaaGreatDoorM05
import Derived.Test.YtpamnignoocogaaGreatDoorNp
namespace Go.Proofs
open Go.Ab
/-- The digit of a number below sixteen. -/
def hexC (n : Nat) : Int := if n < 10 then 48 + n else 87 + n
/-- What a digit is; -1: none. -/
def hexV (b : UInt8) : Int := if 48 ≤ b.toNat ∧ b.toNat ≤ 57 then b.toNat - 48 else if 97 ≤ b.toNat ∧ b.toNat ≤ 102 then b.toNat - 87 else -1
@[reducible] def hexH : ByteArray := ⟨#[48, 49, 50, 51, 52, 53, 54, 55, 56, 57, 97, 98, 99, 100, 101, 102]⟩
theorem u8_cases {p : UInt8 → Prop} (h : ∀ n : Fin 256, p (UInt8.ofNat n.val)) (b : UInt8) : p b := by
  have := h ⟨b.toNat, b.toNat_lt⟩
  simpa using this
def hexT (b : UInt8) : Bool :=
  idxS hexH (shrI .u8 (b.toNat : Int) 4) == hexC (b.toNat / 16) && idxS hexH (bitsOp .and .u8 (b.toNat : Int) 15) == hexC (b.toNat % 16) && decide (InB (shrI .u8 (b.toNat : Int) 4) (lenS hexH)) && decide (InB (bitsOp .and .u8 (b.toNat : Int) 15) (lenS hexH)) &&
  ixbS hexH (b.toNat : Int) == hexV b && gHexR (b.toNat : Int) == hexV b && (hexV b < 0 || (hexC (hexV b).toNat == (b.toNat : Int) && decide (hexV b < 16))) && hexV (hexC (b.toNat / 16)).toNat.toUInt8 == (b.toNat / 16 : Nat) && hexV (hexC (b.toNat % 16)).toNat.toUInt8 == (b.toNat % 16 : Nat)
where gHexR (x : Int) : Int := bif pickB (leqI 48 x) (leqI x 57) false then cvtI .i64 (subI .u8 x 48) else bif pickB (leqI 97 x) (leqI x 102) false then addI .i64 (cvtI .i64 (subI .u8 x 97)) 10 else -1
theorem hexT_all (b : UInt8) : hexT b = true := u8_cases (p := fun b => hexT b = true) (by decide +kernel) b
theorem hex_facts (b : UInt8) : idxS hexH (shrI .u8 (b.toNat : Int) 4) = hexC (b.toNat / 16) ∧ idxS hexH (bitsOp .and .u8 (b.toNat : Int) 15) = hexC (b.toNat % 16) ∧ InB (shrI .u8 (b.toNat : Int) 4) (lenS hexH) ∧ InB (bitsOp .and .u8 (b.toNat : Int) 15) (lenS hexH) ∧
    ixbS hexH (b.toNat : Int) = hexV b ∧ hexT.gHexR (b.toNat : Int) = hexV b ∧ (0 ≤ hexV b → hexC (hexV b).toNat = (b.toNat : Int) ∧ hexV b < 16) ∧ hexV (hexC (b.toNat / 16)).toNat.toUInt8 = (b.toNat / 16 : Nat) ∧ hexV (hexC (b.toNat % 16)).toNat.toUInt8 = (b.toNat % 16 : Nat) := by
  have h := hexT_all b
  simp only [hexT, Bool.and_eq_true, beq_iff_eq, decide_eq_true_eq, Bool.or_eq_true] at h
  obtain ⟨⟨⟨⟨⟨⟨⟨⟨h1, h2⟩, h3⟩, h4⟩, h5⟩, h6⟩, h7⟩, h8⟩, h9⟩ := h
  exact ⟨h1, h2, h3, h4, h5, h6, fun h => h7.resolve_left (by omega), h8, h9⟩

def digitsL (l : List UInt8) : List Int := l.flatMap fun b => [hexC (b.toNat / 16), hexC (b.toNat % 16)]
theorem digitsL_len (l : List UInt8) : (digitsL l).length = 2 * l.length := by
  induction l with
  | nil => rfl
  | cons b l ih => simp only [digitsL, List.flatMap_cons, List.length_append, List.length_cons, List.length_nil] at ih ⊢; omega
theorem hexC_rng (n : Nat) (h : n < 16) : 48 ≤ hexC n ∧ hexC n ≤ 102 := by unfold hexC; split <;> omega
theorem digitsL_rng (l : List UInt8) : ∀ x ∈ digitsL l, 0 ≤ x ∧ x < 256 := fun x hx => by
  obtain ⟨b, _, h⟩ := List.mem_flatMap.1 hx
  have hb := b.toNat_lt
  have h1 := hexC_rng (b.toNat / 16) (by omega)
  have h2 := hexC_rng (b.toNat % 16) (by omega)
  simp only [List.mem_cons, List.mem_nil_iff, or_false] at h
  rcases h with rfl | rfl <;> omega
theorem idx_b (s : ByteArray) (n : Nat) (h : n < (bytesOf s).length) : idxS s (n : Int) = ((bytesOf s)[n].toNat : Int) := by
  unfold idxS
  have h' : n < s.data.toList.length := h
  show ((s.data.toList.getD (n : Int).toNat 0).toNat : Int) = (s.data.toList[n].toNat : Int)
  simp [List.getD_eq_getElem?_getD, List.getElem?_eq_getElem h']
theorem wrap64 {n : Int} (h0 : 0 ≤ n) (h1 : n < 9223372036854775808) : IntKind.i64.wrap n = n := wrap64_of (by omega) h1

theorem digits_plain (s : ByteArray) (hs : (bytesOf s).length ≤ 1000000) : gScriptDigits s = some (strOfNums (digitsL (bytesOf s))) := by
  obtain ⟨t, ht, hq⟩ := loop_ends (body := gScriptDigits.loop1 s) (fun st => ∃ k : Nat, k ≤ (bytesOf s).length ∧ st = ((k : Int), digitsL ((bytesOf s).take k))) (fun t => t = .go (digitsL (bytesOf s))) (fun st => (bytesOf s).length - st.1.toNat) (fun st hst => by
    obtain ⟨k, hk, rfl⟩ := hst
    unfold gScriptDigits.loop1
    by_cases hlt : k < (bytesOf s).length
    · have e0 : ltI (k : Int) (lenS s) = true := ltI_t (by rw [lenS_b]; omega)
      have hin : InB (k : Int) (lenS s) := ⟨by omega, by rw [lenS_b]; omega⟩
      have f := hex_facts ((bytesOf s)[k])
      obtain ⟨f1, f2, f3, f4, _⟩ := f
      have hl : (digitsL ((bytesOf s).take k)).length ≤ 2000000 := by rw [digitsL_len, List.length_take]; omega
      simp only [e0, cond_true, idx_b s k hlt]
      rw [need_t hin, need_t (show NonN 4 by decide), need_t f3, need_t (show AppB (lenL (digitsL ((bytesOf s).take k))) 1 1 by constructor <;> simp only [lenL] <;> omega), need_t hin, need_t f4,
        need_t (show AppB (lenL (digitsL ((bytesOf s).take k)) + 1) 1 1 by constructor <;> simp only [lenL] <;> omega)]
      have hadd : addI .i64 (k : Int) 1 = ((k + 1 : Nat) : Int) := by unfold addI; rw [wrap64 (by omega) (by omega)]; omega
      refine ⟨⟨k + 1, hlt, ?_⟩, ?_⟩
      · simp only [hadd]
        congr 1
        show appL (appL _ [idxS hexH _]) [idxS hexH _] = _
        rw [f1, f2, List.take_succ_eq_append_getElem hlt]
        simp only [digitsL, appL, List.flatMap_append, List.flatMap_cons, List.flatMap_nil, List.append_nil, List.append_assoc, List.cons_append, List.nil_append]
      · simp only [hadd, Int.toNat_natCast]; omega
    · have e0 : ltI (k : Int) (lenS s) = false := ltI_f (by rw [lenS_b]; omega)
      simp only [e0, cond_false]
      have : k = (bytesOf s).length := by omega
      subst this
      show Fl.go _ = Fl.go _
      rw [List.take_length]) (0, []) ⟨0, Nat.zero_le _, by simp [digitsL]⟩
  subst hq
  unfold gScriptDigits
  rw [ht, bind_so, flC_go, need_t (show TextE _ from digitsL_rng _)]

/-- Digits as bytes; none: they are none. -/
def bytesL : List UInt8 → Option (List Int)
  | [] => some []
  | [_] => none
  | a :: b :: r => if hexV a < 0 ∨ hexV b < 0 then none else (bytesL r).map fun l => (16 * hexV a + hexV b) :: l
theorem bytesL_cons (a b : UInt8) (r : List UInt8) : bytesL (a :: b :: r) = if hexV a < 0 ∨ hexV b < 0 then none else (bytesL r).map fun l => (16 * hexV a + hexV b) :: l := rfl
theorem bytesL_app : ∀ {p q : List UInt8} {l : List Int}, bytesL p = some l → bytesL (p ++ q) = (bytesL q).map (l ++ ·)
  | [], q, l, h => by cases h; simp
  | [_], _, _, h => by cases h
  | a :: b :: r, q, l, h => by
    rw [bytesL_cons] at h
    split at h
    · cases h
    · rename_i hn
      obtain ⟨l', h1, rfl⟩ := Option.map_eq_some_iff.1 h
      rw [List.cons_append, List.cons_append, bytesL_cons, if_neg hn, bytesL_app h1, Option.map_map]
      rfl
theorem bytesL_len : ∀ {p : List UInt8} {l : List Int}, bytesL p = some l → p.length = 2 * l.length
  | [], _, h => by cases h; rfl
  | [_], _, h => by cases h
  | a :: b :: r, l, h => by
    rw [bytesL_cons] at h
    split at h
    · cases h
    · obtain ⟨l', h1, rfl⟩ := Option.map_eq_some_iff.1 h
      have := bytesL_len h1
      simp only [List.length_cons]; omega
/-- What both say of a text. -/
def bytesR (s : ByteArray) : ByteArray × Bool := match bytesL (bytesOf s) with
  | some l => (strOfNums l, true)
  | none => (⟨#[]⟩, false)
theorem hexV_rng (b : UInt8) : -1 ≤ hexV b ∧ hexV b < 16 := by 
  unfold hexV
  split
  · omega
  · split <;> omega
theorem push_eq {x y : Int} (hx : 0 ≤ x) (hx' : x < 16) (hy : 0 ≤ y) (hy' : y < 16) : cvtI .u8 (addI .i64 (mulI .i64 16 x) y) = 16 * x + y := by
  have e1 : mulI .i64 16 x = 16 * x := by unfold mulI; exact wrap64 (by omega) (by omega)
  have e2 : addI .i64 (16 * x) y = 16 * x + y := by unfold addI; exact wrap64 (by omega) (by omega)
  rw [e1, e2]
  unfold cvtI
  rw [show (16 * x + y) = (((16 * x + y).toNat : Nat) : Int) by omega]
  generalize h : (16 * x + y).toNat = n
  have hn : n < 256 := by omega
  simp only [IntKind.wrap, IntKind.bits, IntKind.signed]
  simp
  omega
theorem rem2 (s : ByteArray) : remI (lenS s) 2 = (((bytesOf s).length % 2 : Nat) : Int) := by
  rw [lenS_b]; unfold remI; rw [Int.tmod_eq_emod_of_nonneg (by omega)]; omega
theorem digit_eq (b : UInt8) : gScriptDigit (b.toNat : Int) = some (hexV b) := by
  have := (hex_facts b).2.2.2.2.1
  unfold gScriptDigit; rw [← this]
theorem hex_eq (b : UInt8) : gRef27Hex (b.toNat : Int) = some (hexV b) := by
  have h := (hex_facts b).2.2.2.2.2.1
  unfold gRef27Hex
  rw [← h]
  unfold hexT.gHexR
  cases pickB (leqI 48 (b.toNat : Int)) (leqI (b.toNat : Int) 57) false <;> cases pickB (leqI 97 (b.toNat : Int)) (leqI (b.toNat : Int) 102) false <;> rfl
theorem take2 {L : List UInt8} {k : Nat} (h : 2 * k + 1 < L.length) : L.take (2 * (k + 1)) = L.take (2 * k) ++ [L[2 * k], L[2 * k + 1]] := by
  rw [show 2 * (k + 1) = 2 * k + 1 + 1 by omega, List.take_succ_eq_append_getElem (by omega), List.take_succ_eq_append_getElem (by omega), List.append_assoc]; rfl
/-- The loop that both run. -/
theorem bytes_loop (s : ByteArray) (hs : (bytesOf s).length ≤ 1000000) (hev : (bytesOf s).length % 2 = 0) (body : Int × List Int → Option (Fl (Int × List Int) (Fl (List Int) (ByteArray × Bool))))
    (h1 : ∀ (k : Nat) (l : List Int) (h : 2 * k + 1 < (bytesOf s).length), l.length ≤ 1000000 → body (((2 * k : Nat) : Int), l) = if hexV (bytesOf s)[2 * k] < 0 ∨ hexV (bytesOf s)[2 * k + 1] < 0 then some (.out (.out (⟨#[]⟩, false))) else some (.go (((2 * (k + 1) : Nat) : Int), l ++ [16 * hexV (bytesOf s)[2 * k] + hexV (bytesOf s)[2 * k + 1]])))
    (h2 : ∀ l : List Int, body (((bytesOf s).length : Int), l) = some (.out (.go l))) :
    ((loopF body (0, [])).bind fun f => flC f fun (v1 : List Int) => some (strOfNums v1, true)) = some (bytesR s) := by
  obtain ⟨t, ht, hq⟩ := loop_ends (body := body) (fun st => ∃ k : Nat, 2 * k ≤ (bytesOf s).length ∧ st.1 = ((2 * k : Nat) : Int) ∧ bytesL ((bytesOf s).take (2 * k)) = some st.2)
    (fun t => flC t (fun (v1 : List Int) => some (strOfNums v1, true)) = some (bytesR s)) (fun st => (bytesOf s).length - st.1.toNat) (fun st hst => by
    obtain ⟨k, hk, h3, h4⟩ := hst
    obtain ⟨i, l⟩ := st
    simp only at h3 h4
    subst h3
    have hll := bytesL_len h4
    rw [List.length_take] at hll
    by_cases hlt : 2 * k + 1 < (bytesOf s).length
    · rw [h1 k l hlt (by omega)]
      have hall : bytesL (bytesOf s) = (bytesL ((bytesOf s)[2 * k] :: (bytesOf s)[2 * k + 1] :: (bytesOf s).drop (2 * (k + 1)))).map (l ++ ·) := by
        have e : bytesOf s = (bytesOf s).take (2 * k) ++ ((bytesOf s)[2 * k] :: (bytesOf s)[2 * k + 1] :: (bytesOf s).drop (2 * (k + 1))) := by
          have := (List.take_append_drop (2 * (k + 1)) (bytesOf s)).symm
          rw [take2 hlt, List.append_assoc] at this
          exact this
        have := bytesL_app (q := (bytesOf s)[2 * k] :: (bytesOf s)[2 * k + 1] :: (bytesOf s).drop (2 * (k + 1))) h4
        rw [← e] at this
        exact this
      split
      · rename_i hn
        show flC (Fl.out _) _ = _
        rw [flC_out]
        unfold bytesR
        rw [hall, bytesL_cons, if_pos hn]
        rfl
      · rename_i hn
        refine ⟨⟨k + 1, by omega, rfl, ?_⟩, by simp only [Int.toNat_natCast]; omega⟩
        rw [take2 hlt, bytesL_app h4, bytesL_cons, if_neg hn]
        rfl
    · have : 2 * k = (bytesOf s).length := by omega
      rw [this, h2]
      rw [this, List.take_length] at h4
      show flC (Fl.go l) _ = _
      rw [flC_go]
      unfold bytesR
      rw [h4]) (0, []) ⟨0, by omega, rfl, by simp [bytesL]⟩
  rw [ht, bind_so]
  exact hq
theorem bytes_plain (s : ByteArray) (hs : (bytesOf s).length ≤ 1000000) : gScriptBytes s = some (bytesR s) := by
  unfold gScriptBytes
  rw [need_t (show NonZ 2 by decide), rem2]
  by_cases hev : (bytesOf s).length % 2 = 0
  · rw [neI_f (by omega), cond_false, need_t (show NonZ 2 by decide)]
    have hq : quoI .i64 (lenS s) 2 = (((bytesOf s).length / 2 : Nat) : Int) := by rw [lenS_b, quoI_n (by omega) (by omega) (by omega)]; omega
    rw [hq, need_t (show RepB _ _ 1 by refine ⟨?_, rfl, ?_, ?_⟩ <;> omega)]
    refine bytes_loop s hs hev _ (fun k l h hl => ?_) fun l => ?_
    · unfold gScriptBytes.loop1
      have e0 : ltI ((2 * k : Nat) : Int) (lenS s) = true := ltI_t (by rw [lenS_b]; omega)
      have hadd : addI .i64 ((2 * k : Nat) : Int) 1 = ((2 * k + 1 : Nat) : Int) := by unfold addI; rw [wrap64 (by omega) (by omega)]; omega
      have hadd2 : addI .i64 ((2 * k : Nat) : Int) 2 = ((2 * (k + 1) : Nat) : Int) := by unfold addI; rw [wrap64 (by omega) (by omega)]; omega
      simp only [e0, cond_true, hadd, hadd2, idx_b s (2 * k) (by omega), idx_b s (2 * k + 1) h, digit_eq, bind_so]
      rw [need_t (show InB _ _ from ⟨by omega, by rw [lenS_b]; omega⟩), need_t (show InB _ _ from ⟨by omega, by rw [lenS_b]; omega⟩)]
      have r1 := hexV_rng (bytesOf s)[2 * k]
      have r2 := hexV_rng (bytesOf s)[2 * k + 1]
      rw [pickB_or]
      by_cases hn : hexV (bytesOf s)[2 * k] < 0 ∨ hexV (bytesOf s)[2 * k + 1] < 0
      · rw [if_pos hn]
        have : (ltI (hexV (bytesOf s)[2 * k]) 0 || ltI (hexV (bytesOf s)[2 * k + 1]) 0) = true := by simpa [ltI] using hn
        rw [this, cond_true]
      · rw [if_neg hn]
        have : (ltI (hexV (bytesOf s)[2 * k]) 0 || ltI (hexV (bytesOf s)[2 * k + 1]) 0) = false := by simpa [ltI] using hn
        rw [this, cond_false, need_t (show AppB _ 1 1 by constructor <;> simp only [lenL] <;> omega), push_eq (by omega) (by omega) (by omega) (by omega)]
        rfl
    · unfold gScriptBytes.loop1
      have e0 : ltI ((bytesOf s).length : Int) (lenS s) = false := ltI_f (by rw [lenS_b]; omega)
      simp only [e0, cond_false]
  · rw [neI_t (by omega), cond_true]
    unfold bytesR
    cases h : bytesL (bytesOf s) with
    | none => rfl
    | some l => exact absurd (bytesL_len h) (by omega)
theorem refBytes_plain (s : ByteArray) (hs : (bytesOf s).length ≤ 1000000) : gRef27Bytes s = some (bytesR s) := by
  unfold gRef27Bytes
  rw [need_t (show NonZ 2 by decide), rem2]
  by_cases hev : (bytesOf s).length % 2 = 0
  · rw [eqI_f (by omega), cond_false]
    refine bytes_loop s hs hev _ (fun k l h hl => ?_) fun l => ?_
    · unfold gRef27Bytes.loop1
      have e0 : ltI ((2 * k : Nat) : Int) (lenS s) = true := ltI_t (by rw [lenS_b]; omega)
      have hadd : addI .i64 ((2 * k : Nat) : Int) 1 = ((2 * k + 1 : Nat) : Int) := by unfold addI; rw [wrap64 (by omega) (by omega)]; omega
      have hadd2 : addI .i64 ((2 * k : Nat) : Int) 2 = ((2 * (k + 1) : Nat) : Int) := by unfold addI; rw [wrap64 (by omega) (by omega)]; omega
      have i1 : InB ((2 * k : Nat) : Int) (lenS s) := ⟨by omega, by rw [lenS_b]; omega⟩
      have i2 : InB ((2 * k + 1 : Nat) : Int) (lenS s) := ⟨by omega, by rw [lenS_b]; omega⟩
      simp only [e0, cond_true, hadd, hadd2, idx_b s (2 * k) (by omega), idx_b s (2 * k + 1) h, hex_eq, bind_so, Option.getD_some]
      rw [need_t i1, need_t (under_of i2), need_t (show Under _ _ ((some _ : Option Int).isSome = true) from fun _ => rfl)]
      have r1 := hexV_rng (bytesOf s)[2 * k]
      have r2 := hexV_rng (bytesOf s)[2 * k + 1]
      rw [pickB_or]
      by_cases hn : hexV (bytesOf s)[2 * k] < 0 ∨ hexV (bytesOf s)[2 * k + 1] < 0
      · rw [if_pos hn]
        have : (ltI (hexV (bytesOf s)[2 * k]) 0 || ltI (hexV (bytesOf s)[2 * k + 1]) 0) = true := by simpa [ltI] using hn
        rw [this, cond_true]
      · rw [if_neg hn]
        have : (ltI (hexV (bytesOf s)[2 * k]) 0 || ltI (hexV (bytesOf s)[2 * k + 1]) 0) = false := by simpa [ltI] using hn
        rw [this, cond_false, need_t i1, need_t i2, need_t (show AppB _ 1 1 by constructor <;> simp only [lenL] <;> omega), push_eq (by omega) (by omega) (by omega) (by omega)]
        rfl
    · unfold gRef27Bytes.loop1
      have e0 : ltI ((bytesOf s).length : Int) (lenS s) = false := ltI_f (by rw [lenS_b]; omega)
      simp only [e0, cond_false]
  · rw [eqI_t (by omega), cond_true]
    unfold bytesR
    cases h : bytesL (bytesOf s) with
    | none => rfl
    | some l => exact absurd (bytesL_len h) (by omega)

/-- Bytes, as digits, are these bytes. -/
theorem bytes_digits (L : List UInt8) : bytesL ((digitsL L).map fun n => n.toNat.toUInt8) = some (L.map fun b => (b.toNat : Int)) := by
  induction L with
  | nil => rfl
  | cons b r ih =>
    have f := hex_facts b
    have hb := b.toNat_lt
    simp only [digitsL, List.flatMap_cons, List.cons_append, List.nil_append, List.map_cons] at ih ⊢
    rw [bytesL_cons, f.2.2.2.2.2.2.2.1, f.2.2.2.2.2.2.2.2, if_neg (by omega), ih]
    simp only [Option.map_some, Option.some.injEq, List.cons.injEq, and_true]
    omega
/-- Digits, as bytes, are these digits. -/
theorem digits_bytes : ∀ (L : List UInt8) (l : List Int), bytesL L = some l → digitsL (l.map fun n => n.toNat.toUInt8) = L.map fun b => (b.toNat : Int)
  | [], _, h => by cases h; rfl
  | [_], _, h => by cases h
  | a :: b :: r, l, h => by
    rw [bytesL_cons] at h
    split at h
    · cases h
    · rename_i hn
      obtain ⟨l', h1, rfl⟩ := Option.map_eq_some_iff.1 h
      have ih := digits_bytes r l' h1
      have fa := (hex_facts a).2.2.2.2.2.2.1 (by omega)
      have fb := (hex_facts b).2.2.2.2.2.2.1 (by omega)
      have ra := hexV_rng a
      have rb := hexV_rng b
      have ht : ((16 * hexV a + hexV b).toNat.toUInt8).toNat = 16 * (hexV a).toNat + (hexV b).toNat := by
        simp only [Nat.toUInt8, UInt8.toNat_ofNat']; omega
      simp only [digitsL, List.map_cons, List.flatMap_cons, List.cons_append, List.nil_append] at ih ⊢
      rw [ht, ih, show (16 * (hexV a).toNat + (hexV b).toNat) / 16 = (hexV a).toNat by omega, show (16 * (hexV a).toNat + (hexV b).toNat) % 16 = (hexV b).toNat by omega, fa.1, fb.1]
theorem nums_bytes (L : List UInt8) : strOfNums (L.map fun b => (b.toNat : Int)) = ⟨L.toArray⟩ := by
  refine bytes_ext ?_
  rw [nums_b, lit_b, List.map_map]
  refine (List.map_congr_left fun b _ => ?_).trans (List.map_id _)
  simp
theorem eqS_rfl (s : ByteArray) : eqS s s = true := (eqS_iff s s).2 rfl
theorem cut_plain (s : ByteArray) (_hs : s.size ≤ maxLen) (n : Nat) : ∃ t : ByteArray, gLaw01Cut s (n : Int) = some t ∧ (bytesOf t).length ≤ n := by
  unfold gLaw01Cut
  by_cases h : (n : Int) < lenS s
  · rw [ltI_t h, cond_true, need_t (show CutB 0 _ _ from ⟨by omega, by omega, by omega⟩)]
    refine ⟨_, rfl, ?_⟩
    rw [cutS_b]
    simp
    omega
  · rw [ltI_f h, cond_false]
    rw [lenS_b] at h
    exact ⟨_, rfl, by omega⟩
theorem scriptBytes_plain (x0 x1 : ByteArray) (h0 : x0.size ≤ maxLen) (h1 : x1.size ≤ maxLen) : gLaw27ScriptBytes x0 x1 = some true := by
  obtain ⟨s, e1, l1⟩ := cut_plain x0 h0 100
  obtain ⟨d, e2, l2⟩ := cut_plain x1 h1 40
  unfold gLaw27ScriptBytes
  rw [show gLaw01Cut x0 100 = some s from e1, show gLaw01Cut x1 40 = some d from e2]
  simp only [bind_so]
  have hd : (bytesOf (strOfNums (digitsL (bytesOf s)))).length = 2 * (bytesOf s).length := by rw [nums_b, List.length_map, digitsL_len]
  rw [digits_plain s (by omega)]
  simp only [bind_so]
  rw [bytes_plain _ (by omega)]
  simp only [bind_so]
  rw [bytes_plain d (by omega), refBytes_plain d (by omega)]
  simp only [bind_so]
  have r4 : bytesR (strOfNums (digitsL (bytesOf s))) = (s, true) := by
    unfold bytesR
    rw [nums_b, bytes_digits]
    simp only [nums_bytes]
    congr 1
  rw [r4]
  unfold gLaw27Awake gAwakeP
  simp only [bind_so, eqS_rfl]
  have hl : eqI (lenS (strOfNums (digitsL (bytesOf s)))) (mulI .i64 2 (lenS s)) = true := by
    refine eqI_t ?_
    rw [lenS_b, lenS_b, hd, mulI_n (by omega) (by omega)]
    omega
  have hb : eqB (bytesR d).2 (bytesR d).2 = true := by cases (bytesR d).2 <;> rfl
  simp only [hl, hb, pickB_and, Bool.and_true, Bool.true_and]
  cases h : bytesL (bytesOf d) with
  | none =>
    have : bytesR d = (⟨#[]⟩, false) := by unfold bytesR; rw [h]
    rw [this, need_t (show Under (notB ((⟨#[]⟩, false) : ByteArray × Bool).2) false _ from fun q => by cases q)]
    rfl
  | some l =>
    have hr : bytesR d = (strOfNums l, true) := by unfold bytesR; rw [h]
    have hll := bytesL_len h
    have hdd : gScriptDigits (strOfNums l) = some d := by
      rw [digits_plain _ (by rw [nums_b, List.length_map]; omega), nums_b, digits_bytes _ _ h, nums_bytes]
      rfl
    rw [hr]
    simp only [hdd, Option.getD_some, eqS_rfl]
    rw [need_t (show Under _ _ (Under _ _ ((some d).isSome = true)) from fun _ _ => rfl)]
    rfl
end Go.Proofs
