/- Runes of a text, as plain lists. No condition. -/
import Derived.Test.YtpamnignoocogaaGreatDoorM05
import Derived.Test.YtpamnignoocogaaGreatDoorM11
import Derived.Lib.MapLaws
import Derived.Laws.Cover4
namespace Go.Ab
open Go.Lib

/-! ### Bytes -/
def bytesOf (s : ByteArray) : List UInt8 := s.data.toList
theorem bytesOf_len (s : ByteArray) : (bytesOf s).length = s.size := Array.length_toList
theorem lenS_b (s : ByteArray) : lenS s = ((bytesOf s).length : Int) := by rw [bytesOf_len]; rfl
theorem bytes_ext {a b : ByteArray} (h : bytesOf a = bytesOf b) : a = b := by
  cases a; cases b
  congr 1
  exact Array.ext' h
theorem eqS_b (a b : ByteArray) : eqS a b = decide (bytesOf a = bytesOf b) := by
  by_cases h : a = b
  · subst h; rw [(eqS_iff a a).2 rfl]; simp
  · have : eqS a b = false := by
      cases e : eqS a b with
      | false => rfl
      | true => exact absurd ((eqS_iff a b).1 e) h
    rw [this, decide_eq_false]
    exact fun q => h (bytes_ext q)
theorem neS_b (a b : ByteArray) : neS a b = !eqS a b := rfl
theorem cutS_b (s : ByteArray) (l h : Int) : bytesOf (cutS s l h) = ((bytesOf s).drop l.toNat).take (h.toNat - l.toNat) := by
  simp [cutS, bytesOf, ByteArray.data_extract, List.extract_eq_take_drop]
theorem catS_b (a b : ByteArray) : bytesOf (catS a b) = bytesOf a ++ bytesOf b := by
  simp [catS, bytesOf]
theorem lit_b (l : List UInt8) : bytesOf ⟨l.toArray⟩ = l := by simp [bytesOf]

/-! ### Encoding -/
theorem enc_b (r : Int) : bytesOf (Utf8.encode r) = encodeRune r := by
  unfold encodeRune
  by_cases h : (0 ≤ r ∧ r < 55296) ∨ (57344 ≤ r ∧ r ≤ 1114111)
  · have hv : Utf8.valid r = true := by simp [Utf8.valid]; omega
    obtain ⟨n, rfl⟩ : ∃ n : Nat, r = n := ⟨r.toNat, by omega⟩
    unfold Utf8.encode
    rw [if_pos hv]
    simp only [Int.toNat_natCast]
    by_cases h1 : n < 128
    · rw [encodeRuneZ_one (by omega) (by omega), if_pos h1]
      simp [bytesOf]
    rw [if_neg h1]
    by_cases h2 : n < 2048
    · rw [encodeRuneZ_two (by omega) (by omega), if_pos h2]
      have e1 : ((192 + (n : Int) / 64)).toNat = 192 + n / 64 := by omega
      have e2 : ((128 + (n : Int) % 64)).toNat = 128 + n % 64 := by omega
      simp [bytesOf, e1, e2]
    rw [if_neg h2]
    by_cases h3 : n < 65536
    · rw [encodeRuneZ_three (by omega), if_pos h3]
      have e1 : ((224 + (n : Int) / 4096)).toNat = 224 + n / 4096 := by omega
      have e2 : ((128 + (n : Int) / 64 % 64)).toNat = 128 + n / 64 % 64 := by omega
      have e3 : ((128 + (n : Int) % 64)).toNat = 128 + n % 64 := by omega
      simp [bytesOf, e1, e2, e3]
    · rw [encodeRuneZ_four (by omega) (by omega), if_neg h3]
      have e0 : ((240 + (n : Int) / 262144)).toNat = 240 + n / 262144 := by omega
      have e1 : ((128 + (n : Int) / 4096 % 64)).toNat = 128 + n / 4096 % 64 := by omega
      have e2 : ((128 + (n : Int) / 64 % 64)).toNat = 128 + n / 64 % 64 := by omega
      have e3 : ((128 + (n : Int) % 64)).toNat = 128 + n % 64 := by omega
      simp [bytesOf, e0, e1, e2, e3]
  · have hv : Utf8.valid r = false := by
      cases e : Utf8.valid r with
      | false => rfl
      | true =>
        simp [Utf8.valid] at e
        omega
    rw [encodeRuneZ_bad (by omega)]
    unfold Utf8.encode
    simp only [hv, Bool.false_eq_true, if_false, Utf8.runeError]
    decide

theorem runes_foldl : ∀ (ns : List Int) (a : ByteArray), bytesOf (ns.foldl (fun r n => r ++ Utf8.encode n) a) = bytesOf a ++ ns.flatMap encodeRune
  | [], a => by simp
  | n :: ns, a => by
    rw [List.foldl_cons, runes_foldl ns, List.flatMap_cons, ← enc_b]
    simp [bytesOf]
theorem runes_b (ns : List Int) : bytesOf (runesBytes ns) = ns.flatMap encodeRune := by
  unfold runesBytes
  rw [runes_foldl]
  rfl
theorem nums_b (ns : List Int) : bytesOf (strOfNums ns) = ns.map fun n => n.toNat.toUInt8 := by
  simp [strOfNums, bytesOf]
theorem numsRune_b (ns : List Int) : bytesOf (strOfNums (ns.flatMap runeZ)) = ns.flatMap encodeRune := by
  rw [nums_b, List.map_flatMap]
  rfl

theorem enc_len (r : Int) : 1 ≤ (encodeRune r).length ∧ (encodeRune r).length ≤ 4 := by
  have := encodeRuneZ_length r
  simpa [encodeRune] using this

/-! ### Decoding -/
def runesF : Nat → List UInt8 → List Int
  | 0, _ => []
  | n + 1, l => match l with
    | [] => []
    | a :: t => ((decodeL (a :: t)).1 : Int) :: runesF n ((a :: t).drop (decodeL (a :: t)).2)
/-- The runes of a text's bytes. -/
def runesL (l : List UInt8) : List Int := runesF l.length l
theorem runesF_fuel : ∀ (n m : Nat) (l : List UInt8), l.length ≤ n → l.length ≤ m → runesF n l = runesF m l
  | 0, 0, _, _, _ => rfl
  | 0, m + 1, l, h, _ => by
    have : l = [] := List.eq_nil_of_length_eq_zero (by omega)
    subst this; rfl
  | n + 1, 0, l, _, h => by
    have : l = [] := List.eq_nil_of_length_eq_zero (by omega)
    subst this; rfl
  | n + 1, m + 1, [], _, _ => rfl
  | n + 1, m + 1, a :: t, h, h' => by
    have hw := decodeL_width (a :: t)
    simp only [runesF]
    rw [runesF_fuel n m _ (by rw [List.length_drop]; omega) (by rw [List.length_drop]; omega)]
theorem runesL_nil : runesL [] = [] := rfl
theorem runesL_cons {l : List UInt8} (h : l ≠ []) : runesL l = ((decodeL l).1 : Int) :: runesL (l.drop (decodeL l).2) := by
  cases l with
  | nil => exact absurd rfl h
  | cons a t =>
    have hw := decodeL_width (a :: t)
    unfold runesL
    simp only [List.length_cons, runesF]
    rw [runesF_fuel t.length _ _ (by rw [List.length_drop]; simp only [List.length_cons]; omega) (Nat.le_refl _)]

theorem rune_rng (l : List UInt8) : 0 ≤ ((decodeL l).1 : Int) ∧ ((decodeL l).1 : Int) ≤ 1114111 := by
  have := decodeL_rune l
  omega
theorem runesL_rng : ∀ (n : Nat) (l : List UInt8), l.length ≤ n → ∀ r ∈ runesL l, 0 ≤ r ∧ r ≤ 1114111
  | n, [], _, r, hr => by cases hr
  | 0, a :: t, h, _, _ => by simp at h
  | n + 1, a :: t, h, r, hr => by
    have hw := decodeL_width (a :: t)
    rw [runesL_cons (by simp)] at hr
    rcases List.mem_cons.1 hr with rfl | hr
    · exact rune_rng _
    · exact runesL_rng n _ (by rw [List.length_drop]; omega) r hr
theorem runesL_len : ∀ (n : Nat) (l : List UInt8), l.length ≤ n → (runesL l).length ≤ l.length ∧ l.length ≤ 4 * (runesL l).length
  | n, [], _ => by simp [runesL_nil]
  | 0, a :: t, h => by simp at h
  | n + 1, a :: t, h => by
    have hw := decodeL_width (a :: t)
    have hw4 : (decodeL (a :: t)).2 ≤ 4 := by
      rw [decodeL_N]
      rcases decodeN_shape (a :: t).length ((a :: t).getD 0 0).toNat ((a :: t).getD 1 0).toNat ((a :: t).getD 2 0).toNat ((a :: t).getD 3 0).toNat with ⟨c, e⟩ | ⟨c1, c2, c3, cv, e⟩ | ⟨c1, c2, c3, c4, cv, cs, e⟩ | ⟨c1, c2, c3, c4, c5, cv, cw, e⟩ | e
      all_goals (rw [e]; dsimp only; omega)
    have ih := runesL_len n ((a :: t).drop (decodeL (a :: t)).2) (by rw [List.length_drop]; omega)
    rw [runesL_cons (by simp)]
    rw [List.length_drop] at ih
    simp only [List.length_cons] at ih ⊢
    omega

/-! ### A place in a text -/
/-- What lies behind a place. -/
def restS (s : ByteArray) (pos : Nat) : List UInt8 := (bytesOf s).drop pos
theorem restS_0 (s : ByteArray) : restS s 0 = bytesOf s := rfl
theorem restS_len (s : ByteArray) (pos : Nat) : (restS s pos).length = s.size - pos := by simp [restS, bytesOf_len]
theorem nextB_t {s : ByteArray} {pos : Nat} (h : restS s pos ≠ []) : nextB s pos = true := by
  have : 0 < (restS s pos).length := List.length_pos_iff.2 h
  rw [restS_len] at this
  simp [nextB]; omega
theorem nextB_f {s : ByteArray} {pos : Nat} (h : restS s pos = []) : nextB s pos = false := by
  have : (restS s pos).length = 0 := by rw [h]; rfl
  rw [restS_len] at this
  simp [nextB]; omega
theorem runeS_d (s : ByteArray) (pos : Nat) : runeS s pos = ((decodeL (restS s pos)).1 : Int) := by
  unfold runeS restS bytesOf
  rw [decodeL_drop]
theorem stepS_d (s : ByteArray) (pos : Nat) : stepS s pos = pos + (decodeL (restS s pos)).2 := by
  unfold stepS restS bytesOf
  rw [decodeL_drop]
theorem restS_step (s : ByteArray) (pos : Nat) : restS s (stepS s pos) = (restS s pos).drop (decodeL (restS s pos)).2 := by
  rw [stepS_d]
  simp [restS, List.drop_drop]
theorem step_gt (s : ByteArray) (pos : Nat) : pos < stepS s pos := by
  rw [stepS_d]
  have := decodeL_width (restS s pos)
  omega
theorem step_le {s : ByteArray} {pos : Nat} (h : restS s pos ≠ []) : stepS s pos ≤ s.size := by
  rw [stepS_d]
  have h1 := decodeL_le (restS s pos) h
  have h2 := List.length_pos_iff.2 h
  rw [restS_len] at h1 h2
  omega
theorem rune_I32 (s : ByteArray) (pos : Nat) : I32B (runeS s pos) := by
  rw [runeS_d]
  have := rune_rng (restS s pos)
  exact ⟨by omega, by omega⟩
/-- The runes behind a place. -/
def scan (s : ByteArray) (pos : Nat) : List Int := runesL (restS s pos)
theorem scan_t {s : ByteArray} {pos : Nat} (h : restS s pos ≠ []) : scan s pos = runeS s pos :: scan s (stepS s pos) := by
  unfold scan
  rw [runesL_cons h, restS_step, runeS_d]
theorem scan_f {s : ByteArray} {pos : Nat} (h : restS s pos = []) : scan s pos = [] := by
  unfold scan
  rw [h]; rfl
theorem scan_rng (s : ByteArray) (pos : Nat) : ∀ r ∈ scan s pos, 0 ≤ r ∧ r ≤ 1114111 := runesL_rng _ _ (Nat.le_refl _)
theorem scan_len (s : ByteArray) (pos : Nat) : (scan s pos).length ≤ s.size - pos ∧ s.size - pos ≤ 4 * (scan s pos).length := by
  have := runesL_len _ (restS s pos) (Nat.le_refl _)
  rw [restS_len] at this
  exact this

/-- What is encoded is decoded so. -/
theorem dec_enc {r : Int} (h : (0 ≤ r ∧ r < 55296) ∨ (57344 ≤ r ∧ r ≤ 1114111)) (t : List UInt8) : ((decodeL (encodeRune r ++ t)).1 : Int) = r ∧ (decodeL (encodeRune r ++ t)).2 = (encodeRune r).length := by
  obtain ⟨n, rfl⟩ : ∃ n : Nat, r = n := ⟨r.toNat, by omega⟩
  rw [decodeL_N]
  unfold encodeRune
  by_cases h1 : n < 128
  · rw [encodeRuneZ_one (by omega) (by omega)]
    have e : ((n : Int).toNat.toUInt8).toNat = n := by simp; omega
    simp only [List.map_cons, List.map_nil, List.cons_append, List.nil_append, List.getD_cons_zero, e]
    unfold decodeN
    rw [if_pos h1]
    exact ⟨rfl, rfl⟩
  by_cases h2 : n < 2048
  · rw [encodeRuneZ_two (by omega) (by omega)]
    have e0 : ((192 + (n : Int) / 64).toNat.toUInt8).toNat = 192 + n / 64 := by
      rw [show (192 + (n : Int) / 64).toNat = 192 + n / 64 by omega]; simp; omega
    have e1 : ((128 + (n : Int) % 64).toNat.toUInt8).toNat = 128 + n % 64 := by
      rw [show (128 + (n : Int) % 64).toNat = 128 + n % 64 by omega]; simp; omega
    simp only [List.map_cons, List.map_nil, List.cons_append, List.nil_append, List.getD_cons_zero, List.getD_cons_succ, e0, e1, List.length_cons]
    unfold decodeN
    rw [if_neg (by omega), if_pos (by omega), if_pos (by omega)]
    refine ⟨?_, rfl⟩
    dsimp only; omega
  by_cases h3 : n < 65536
  · rw [encodeRuneZ_three (by omega)]
    have e0 : ((224 + (n : Int) / 4096).toNat.toUInt8).toNat = 224 + n / 4096 := by
      rw [show (224 + (n : Int) / 4096).toNat = 224 + n / 4096 by omega]; simp; omega
    have e1 : ((128 + (n : Int) / 64 % 64).toNat.toUInt8).toNat = 128 + n / 64 % 64 := by
      rw [show (128 + (n : Int) / 64 % 64).toNat = 128 + n / 64 % 64 by omega]; simp; omega
    have e2 : ((128 + (n : Int) % 64).toNat.toUInt8).toNat = 128 + n % 64 := by
      rw [show (128 + (n : Int) % 64).toNat = 128 + n % 64 by omega]; simp; omega
    simp only [List.map_cons, List.map_nil, List.cons_append, List.nil_append, List.getD_cons_zero, List.getD_cons_succ, e0, e1, e2, List.length_cons]
    unfold decodeN
    rw [if_neg (by omega), if_neg (by omega), if_pos (by omega), if_pos (by omega)]
    refine ⟨?_, rfl⟩
    dsimp only; omega
  · rw [encodeRuneZ_four (by omega) (by omega)]
    have e0 : ((240 + (n : Int) / 262144).toNat.toUInt8).toNat = 240 + n / 262144 := by
      rw [show (240 + (n : Int) / 262144).toNat = 240 + n / 262144 by omega]; simp; omega
    have e1 : ((128 + (n : Int) / 4096 % 64).toNat.toUInt8).toNat = 128 + n / 4096 % 64 := by
      rw [show (128 + (n : Int) / 4096 % 64).toNat = 128 + n / 4096 % 64 by omega]; simp; omega
    have e2 : ((128 + (n : Int) / 64 % 64).toNat.toUInt8).toNat = 128 + n / 64 % 64 := by
      rw [show (128 + (n : Int) / 64 % 64).toNat = 128 + n / 64 % 64 by omega]; simp; omega
    have e3 : ((128 + (n : Int) % 64).toNat.toUInt8).toNat = 128 + n % 64 := by
      rw [show (128 + (n : Int) % 64).toNat = 128 + n % 64 by omega]; simp; omega
    simp only [List.map_cons, List.map_nil, List.cons_append, List.nil_append, List.getD_cons_zero, List.getD_cons_succ, e0, e1, e2, e3, List.length_cons]
    unfold decodeN
    rw [if_neg (by omega), if_neg (by omega), if_neg (by omega), if_pos (by omega), if_pos (by omega)]
    refine ⟨?_, rfl⟩
    dsimp only; omega

/-- A rune that a text can hold. -/
def ValidR (r : Int) : Prop := (0 ≤ r ∧ r < 55296) ∨ (57344 ≤ r ∧ r ≤ 1114111)
theorem runes_enc : ∀ (rs : List Int), (∀ r ∈ rs, ValidR r) → runesL (rs.flatMap encodeRune) = rs
  | [], _ => rfl
  | r :: rs, h => by
    have hl := (enc_len r).1
    have hne : encodeRune r ++ rs.flatMap encodeRune ≠ [] := by
      intro e
      have := congrArg List.length e
      simp at this
      rw [this.1] at hl
      simp at hl
    obtain ⟨e1, e2⟩ := dec_enc (h r (by simp)) (rs.flatMap encodeRune)
    rw [List.flatMap_cons, runesL_cons hne, e1, e2, List.drop_left, runes_enc rs fun x hx => h x (by simp [hx])]

theorem dec_valid (l : List UInt8) : ValidR ((decodeL l).1 : Int) := by
  unfold ValidR
  rw [decodeL_N]
  have k0 := (l.getD 0 0).toNat_lt
  have k1 := (l.getD 1 0).toNat_lt
  rcases decodeN_shape l.length (l.getD 0 0).toNat (l.getD 1 0).toNat (l.getD 2 0).toNat (l.getD 3 0).toNat with ⟨c, e⟩ | ⟨c1, c2, c3, cv, e⟩ | ⟨c1, c2, c3, c4, cv, cs, e⟩ | ⟨c1, c2, c3, c4, c5, cv, cw, e⟩ | e
  all_goals (rw [e]; dsimp only; omega)
theorem runesL_valid : ∀ (n : Nat) (l : List UInt8), l.length ≤ n → ∀ r ∈ runesL l, ValidR r
  | n, [], _, r, hr => by cases hr
  | 0, a :: t, h, _, _ => by simp at h
  | n + 1, a :: t, h, r, hr => by
    have hw := decodeL_width (a :: t)
    rw [runesL_cons (by simp)] at hr
    rcases List.mem_cons.1 hr with rfl | hr
    · exact dec_valid _
    · exact runesL_valid n _ (by rw [List.length_drop]; omega) r hr
/-- Where no rune is U+FFFD, the bytes are those of the runes. -/
theorem enc_runes : ∀ (n : Nat) (l : List UInt8), l.length ≤ n → 65533 ∉ runesL l → (runesL l).flatMap encodeRune = l
  | n, [], _, _ => rfl
  | 0, a :: t, h, _ => by simp at h
  | n + 1, a :: t, h, hn => by
    have hw := decodeL_width (a :: t)
    rw [runesL_cons (by simp)] at hn ⊢
    simp only [List.mem_cons, not_or] at hn
    rw [List.flatMap_cons, enc_runes n _ (by rw [List.length_drop]; omega) hn.2, encode_decode (a :: t) (by simp) (fun q => hn.1 (by rw [q.1]; rfl)), List.take_append_drop]
end Go.Ab
