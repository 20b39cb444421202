import Derived.Test.YtpamnignoocogaaGreatDoorM10
import Derived.Test.YtpamnignoocogaaGreatDoorM05
import Derived.Test.YtpamnignoocogaaGreatDoorM16
import Derived.Test.YtpamnignoocogaaGreatDoorM17
import Derived.Test.YtpamnignoocogaaGreatDoorM12
import Derived.Test.YtpamnignoocogaaGreatDoorM15
section
namespace Go.Proofs
open Go.Ab
def hexC (n : Nat) : Int := if n < 10 then 48 + n else 87 + n
def hexV (b : UInt8) : Int := if 48 ≤ b.toNat ∧ b.toNat ≤ 57 then b.toNat - 48 else if 97 ≤ b.toNat ∧ b.toNat ≤ 102 then b.toNat - 87 else -1
@[reducible] def hexH : ByteArray := ⟨#[48, 49, 50, 51, 52, 53, 54, 55, 56, 57, 97, 98, 99, 100, 101, 102]⟩
theorem u8_cases {p : UInt8 → Prop} (h : ∀ n : Fin 256, p (UInt8.ofNat n.val)) (b : UInt8) : p b := by
 have := h ⟨b.toNat, b.toNat_lt⟩;simpa using this
def hexT (b : UInt8) : Bool :=
 idxS hexH (shrI .u8 (b.toNat : Int) 4) == hexC (b.toNat / 16) && idxS hexH (bitsOp .and .u8 (b.toNat : Int) 15) == hexC (b.toNat % 16) && decide (InB (shrI .u8 (b.toNat : Int) 4) (lenS hexH)) && decide (InB (bitsOp .and .u8 (b.toNat : Int) 15) (lenS hexH)) &&
 ixbS hexH (b.toNat : Int) == hexV b && gHexR (b.toNat : Int) == hexV b && (hexV b < 0 || (hexC (hexV b).toNat == (b.toNat : Int) && decide (hexV b < 16))) && hexV (hexC (b.toNat / 16)).toNat.toUInt8 == (b.toNat / 16 : Nat) && hexV (hexC (b.toNat % 16)).toNat.toUInt8 == (b.toNat % 16 : Nat)
where gHexR (x : Int) : Int := bif pickB (leqI 48 x) (leqI x 57) false then cvtI .i64 (subI .u8 x 48) else bif pickB (leqI 97 x) (leqI x 102) false then addI .i64 (cvtI .i64 (subI .u8 x 97)) 10 else -1
theorem hexT_all (b : UInt8) : hexT b = true := u8_cases (p := fun b => hexT b = true) (by decide +kernel) b
theorem hex_facts (b : UInt8) : idxS hexH (shrI .u8 (b.toNat : Int) 4) = hexC (b.toNat / 16) ∧ idxS hexH (bitsOp .and .u8 (b.toNat : Int) 15) = hexC (b.toNat % 16) ∧ InB (shrI .u8 (b.toNat : Int) 4) (lenS hexH) ∧ InB (bitsOp .and .u8 (b.toNat : Int) 15) (lenS hexH) ∧
  ixbS hexH (b.toNat : Int) = hexV b ∧ hexT.gHexR (b.toNat : Int) = hexV b ∧ (0 ≤ hexV b → hexC (hexV b).toNat = (b.toNat : Int) ∧ hexV b < 16) ∧ hexV (hexC (b.toNat / 16)).toNat.toUInt8 = (b.toNat / 16 : Nat) ∧ hexV (hexC (b.toNat % 16)).toNat.toUInt8 = (b.toNat % 16 : Nat) := by
 have h := hexT_all b;simp only [hexT, Bool.and_eq_true, beq_iff_eq, decide_eq_true_eq, Bool.or_eq_true] at h;obtain ⟨⟨⟨⟨⟨⟨⟨⟨h1, h2⟩, h3⟩, h4⟩, h5⟩, h6⟩, h7⟩, h8⟩, h9⟩ := h;exact ⟨h1, h2, h3, h4, h5, h6, fun h => h7.resolve_left (by omega), h8, h9⟩
def digitsL (l : List UInt8) : List Int := l.flatMap fun b => [hexC (b.toNat / 16), hexC (b.toNat % 16)]
theorem digitsL_len (l : List UInt8) : (digitsL l).length = 2 * l.length := by
 induction l with
 | nil => rfl
 | cons b l ih => simp only [digitsL, List.flatMap_cons, List.length_append, List.length_cons, List.length_nil] at ih ⊢; omega
theorem hexC_rng (n : Nat) (h : n < 16) : 48 ≤ hexC n ∧ hexC n ≤ 102 := by unfold hexC; split <;> omega
theorem digitsL_rng (l : List UInt8) : ∀ x ∈ digitsL l, 0 ≤ x ∧ x < 256 := fun x hx => by
 obtain ⟨b, _, h⟩ := List.mem_flatMap.1 hx;have hb := b.toNat_lt;have h1 := hexC_rng (b.toNat / 16) (by omega);have h2 := hexC_rng (b.toNat % 16) (by omega);simp only [List.mem_cons, List.mem_nil_iff, or_false] at h;rcases h with rfl | rfl <;> omega
theorem idx_b (s : ByteArray) (n : Nat) (h : n < (bytesOf s).length) : idxS s (n : Int) = ((bytesOf s)[n].toNat : Int) := by
 unfold idxS;have h' : n < s.data.toList.length := h;show ((s.data.toList.getD (n : Int).toNat 0).toNat : Int) = (s.data.toList[n].toNat : Int);simp [List.getD_eq_getElem?_getD, List.getElem?_eq_getElem h']
theorem wrap64 {n : Int} (h0 : 0 ≤ n) (h1 : n < 9223372036854775808) : IntKind.i64.wrap n = n := wrap64_of (by omega) h1
theorem digits_plain (s : ByteArray) (hs : (bytesOf s).length ≤ 1000000) : gal s = some (strOfNums (digitsL (bytesOf s))) := by
 obtain ⟨t, ht, hq⟩ := loop_ends (body := gal.loop1 s) (fun st => ∃ k : Nat, k ≤ (bytesOf s).length ∧ st = ((k : Int), digitsL ((bytesOf s).take k))) (fun t => t = .go (digitsL (bytesOf s))) (fun st => (bytesOf s).length - st.1.toNat) (fun st hst => by
  obtain ⟨k, hk, rfl⟩ := hst;unfold gal.loop1;by_cases hlt : k < (bytesOf s).length
  ·have e0 : ltI (k : Int) (lenS s) = true := ltI_t (by rw [lenS_b]; omega);have hin : InB (k : Int) (lenS s) := ⟨by omega, by rw [lenS_b]; omega⟩;have f := hex_facts ((bytesOf s)[k]);obtain ⟨f1, f2, f3, f4, _⟩ := f;have hl : (digitsL ((bytesOf s).take k)).length ≤ 2000000 := by rw [digitsL_len, List.length_take]; omega
   simp only [e0, cond_true, idx_b s k hlt]
   rw [Lf hin, Lf (show NonN 4 by decide), Lf f3, Lf (show AppB (lenL (digitsL ((bytesOf s).take k))) 1 1 by constructor <;> simp only [lenL] <;> omega), Lf hin, Lf f4,
    Lf (show AppB (lenL (digitsL ((bytesOf s).take k)) + 1) 1 1 by constructor <;> simp only [lenL] <;> omega)]
   have hadd : addI .i64 (k : Int) 1 = ((k + 1 : Nat) : Int) := by unfold addI; rw [wrap64 (by omega) (by omega)]; omega
   refine ⟨⟨k + 1, hlt, ?_⟩, ?_⟩
   ·simp only [hadd];congr 1;show appL (appL _ [idxS hexH _]) [idxS hexH _] = _;rw [f1, f2, List.take_succ_eq_append_getElem hlt];simp only [digitsL, appL, List.flatMap_append, List.flatMap_cons, List.flatMap_nil, List.append_nil, List.append_assoc, List.cons_append, List.nil_append]
   ·simp only [hadd, Int.toNat_natCast]; omega
  ·have e0 : ltI (k : Int) (lenS s) = false := ltI_f (by rw [lenS_b]; omega);simp only [e0, cond_false];have : k = (bytesOf s).length := by omega
   subst this;show Fl.go _ = Fl.go _;rw [List.take_length]) (0, []) ⟨0, Nat.zero_le _, by simp [digitsL]⟩
 subst hq;unfold gal;rw [ht, Lh, flC_go, Lf (show TextE _ from digitsL_rng _)]
def bytesL : List UInt8 → Option (List Int)
 | [] => some []
 | [_] => none
 | a :: b :: r => if hexV a < 0 ∨ hexV b < 0 then none else (bytesL r).map fun l => (16 * hexV a + hexV b) :: l
theorem bytesL_cons (a b : UInt8) (r : List UInt8) : bytesL (a :: b :: r) = if hexV a < 0 ∨ hexV b < 0 then none else (bytesL r).map fun l => (16 * hexV a + hexV b) :: l := rfl
theorem bytesL_app : ∀ {p q : List UInt8} {l : List Int}, bytesL p = some l → bytesL (p ++ q) = (bytesL q).map (l ++ ·)
 | [], q, l, h => by cases h; simp
 | [_], _, _, h => by cases h
 | a :: b :: r, q, l, h => by
   rw [bytesL_cons] at h;split at h
   ·cases h
   ·rename_i hn;obtain ⟨l', h1, rfl⟩ := Option.map_eq_some_iff.1 h;rw [List.cons_append, List.cons_append, bytesL_cons, if_neg hn, bytesL_app h1, Option.map_map];rfl
theorem bytesL_len : ∀ {p : List UInt8} {l : List Int}, bytesL p = some l → p.length = 2 * l.length
 | [], _, h => by cases h; rfl
 | [_], _, h => by cases h
 | a :: b :: r, l, h => by
   rw [bytesL_cons] at h;split at h
   ·cases h
   ·obtain ⟨l', h1, rfl⟩ := Option.map_eq_some_iff.1 h;have := bytesL_len h1;simp only [List.length_cons]; omega
def bytesR (s : ByteArray) : ByteArray × Bool := match bytesL (bytesOf s) with
 | some l => (strOfNums l, true)
 | none => (⟨#[]⟩, false)
theorem hexV_rng (b : UInt8) : -1 ≤ hexV b ∧ hexV b < 16 := by 
 unfold hexV;split
 ·omega
 ·split <;> omega
theorem push_eq {x y : Int} (hx : 0 ≤ x) (hx' : x < 16) (hy : 0 ≤ y) (hy' : y < 16) : cvtI .u8 (addI .i64 (mulI .i64 16 x) y) = 16 * x + y := by
 have e1 : mulI .i64 16 x = 16 * x := by unfold mulI; exact wrap64 (by omega) (by omega)
 have e2 : addI .i64 (16 * x) y = 16 * x + y := by unfold addI; exact wrap64 (by omega) (by omega)
 rw [e1, e2];unfold cvtI;rw [show (16 * x + y) = (((16 * x + y).toNat : Nat) : Int) by omega];generalize h : (16 * x + y).toNat = n;have hn : n < 256 := by omega
 simp only [IntKind.wrap, IntKind.bits, IntKind.signed];simp;omega
theorem rem2 (s : ByteArray) : remI (lenS s) 2 = (((bytesOf s).length % 2 : Nat) : Int) := by
 rw [lenS_b]; unfold remI; rw [Int.tmod_eq_emod_of_nonneg (by omega)]; omega
theorem digit_eq (b : UInt8) : gS (b.toNat : Int) = some (hexV b) := by
 have := (hex_facts b).2.2.2.2.1;unfold gS; rw [← this]
theorem hex_eq (b : UInt8) : gaa (b.toNat : Int) = some (hexV b) := by
 have h := (hex_facts b).2.2.2.2.2.1;unfold gaa;rw [← h];unfold hexT.gHexR;cases pickB (leqI 48 (b.toNat : Int)) (leqI (b.toNat : Int) 57) false <;> cases pickB (leqI 97 (b.toNat : Int)) (leqI (b.toNat : Int) 102) false <;> rfl
theorem take2 {L : List UInt8} {k : Nat} (h : 2 * k + 1 < L.length) : L.take (2 * (k + 1)) = L.take (2 * k) ++ [L[2 * k], L[2 * k + 1]] := by
 rw [show 2 * (k + 1) = 2 * k + 1 + 1 by omega, List.take_succ_eq_append_getElem (by omega), List.take_succ_eq_append_getElem (by omega), List.append_assoc]; rfl
theorem bytes_loop (s : ByteArray) (hs : (bytesOf s).length ≤ 1000000) (hev : (bytesOf s).length % 2 = 0) (body : Int × List Int → Option (Fl (Int × List Int) (Fl (List Int) (ByteArray × Bool))))
  (h1 : ∀ (k : Nat) (l : List Int) (h : 2 * k + 1 < (bytesOf s).length), l.length ≤ 1000000 → body (((2 * k : Nat) : Int), l) = if hexV (bytesOf s)[2 * k] < 0 ∨ hexV (bytesOf s)[2 * k + 1] < 0 then some (.out (.out (⟨#[]⟩, false))) else some (.go (((2 * (k + 1) : Nat) : Int), l ++ [16 * hexV (bytesOf s)[2 * k] + hexV (bytesOf s)[2 * k + 1]])))
  (h2 : ∀ l : List Int, body (((bytesOf s).length : Int), l) = some (.out (.go l))) :
  ((loopF body (0, [])).bind fun f => flC f fun (v1 : List Int) => some (strOfNums v1, true)) = some (bytesR s) := by
 obtain ⟨t, ht, hq⟩ := loop_ends (body := body) (fun st => ∃ k : Nat, 2 * k ≤ (bytesOf s).length ∧ st.1 = ((2 * k : Nat) : Int) ∧ bytesL ((bytesOf s).take (2 * k)) = some st.2)
  (fun t => flC t (fun (v1 : List Int) => some (strOfNums v1, true)) = some (bytesR s)) (fun st => (bytesOf s).length - st.1.toNat) (fun st hst => by
  obtain ⟨k, hk, h3, h4⟩ := hst;obtain ⟨i, l⟩ := st;simp only at h3 h4;subst h3;have hll := bytesL_len h4;rw [List.length_take] at hll;by_cases hlt : 2 * k + 1 < (bytesOf s).length
  ·rw [h1 k l hlt (by omega)]
   have hall : bytesL (bytesOf s) = (bytesL ((bytesOf s)[2 * k] :: (bytesOf s)[2 * k + 1] :: (bytesOf s).drop (2 * (k + 1)))).map (l ++ ·) := by
    have e : bytesOf s = (bytesOf s).take (2 * k) ++ ((bytesOf s)[2 * k] :: (bytesOf s)[2 * k + 1] :: (bytesOf s).drop (2 * (k + 1))) := by
     have := (List.take_append_drop (2 * (k + 1)) (bytesOf s)).symm;rw [take2 hlt, List.append_assoc] at this;exact this
    have := bytesL_app (q := (bytesOf s)[2 * k] :: (bytesOf s)[2 * k + 1] :: (bytesOf s).drop (2 * (k + 1))) h4;rw [← e] at this;exact this
   split
   ·rename_i hn;show flC (Fl.out _) _ = _;rw [flC_out];unfold bytesR;rw [hall, bytesL_cons, if_pos hn];rfl
   ·rename_i hn;refine ⟨⟨k + 1, by omega, rfl, ?_⟩, by simp only [Int.toNat_natCast]; omega⟩;rw [take2 hlt, bytesL_app h4, bytesL_cons, if_neg hn];rfl
  ·have : 2 * k = (bytesOf s).length := by omega
   rw [this, h2];rw [this, List.take_length] at h4;show flC (Fl.go l) _ = _;rw [flC_go];unfold bytesR;rw [h4]) (0, []) ⟨0, by omega, rfl, by simp [bytesL]⟩
 rw [ht, Lh];exact hq
theorem bytes_plain (s : ByteArray) (hs : (bytesOf s).length ≤ 1000000) : gE s = some (bytesR s) := by
 unfold gE;rw [Lf (show NonZ 2 by decide), rem2];by_cases hev : (bytesOf s).length % 2 = 0
 ·rw [neI_f (by omega), cond_false, Lf (show NonZ 2 by decide)];have hq : quoI .i64 (lenS s) 2 = (((bytesOf s).length / 2 : Nat) : Int) := by rw [lenS_b, quoI_n (by omega) (by omega) (by omega)]; omega
  rw [hq, Lf (show RepB _ _ 1 by refine ⟨?_, rfl, ?_, ?_⟩ <;> omega)];refine bytes_loop s hs hev _ (fun k l h hl => ?_) fun l => ?_
  ·unfold gE.loop1;have e0 : ltI ((2 * k : Nat) : Int) (lenS s) = true := ltI_t (by rw [lenS_b]; omega);have hadd : addI .i64 ((2 * k : Nat) : Int) 1 = ((2 * k + 1 : Nat) : Int) := by unfold addI; rw [wrap64 (by omega) (by omega)]; omega
   have hadd2 : addI .i64 ((2 * k : Nat) : Int) 2 = ((2 * (k + 1) : Nat) : Int) := by unfold addI; rw [wrap64 (by omega) (by omega)]; omega
   simp only [e0, cond_true, hadd, hadd2, idx_b s (2 * k) (by omega), idx_b s (2 * k + 1) h, digit_eq, Lh];rw [Lf (show InB _ _ from ⟨by omega, by rw [lenS_b]; omega⟩), Lf (show InB _ _ from ⟨by omega, by rw [lenS_b]; omega⟩)];have r1 := hexV_rng (bytesOf s)[2 * k];have r2 := hexV_rng (bytesOf s)[2 * k + 1];rw [pickB_or];by_cases hn : hexV (bytesOf s)[2 * k] < 0 ∨ hexV (bytesOf s)[2 * k + 1] < 0
   ·rw [if_pos hn];have : (ltI (hexV (bytesOf s)[2 * k]) 0 || ltI (hexV (bytesOf s)[2 * k + 1]) 0) = true := by simpa [ltI] using hn
    rw [this, cond_true]
   ·rw [if_neg hn];have : (ltI (hexV (bytesOf s)[2 * k]) 0 || ltI (hexV (bytesOf s)[2 * k + 1]) 0) = false := by simpa [ltI] using hn
    rw [this, cond_false, Lf (show AppB _ 1 1 by constructor <;> simp only [lenL] <;> omega), push_eq (by omega) (by omega) (by omega) (by omega)];rfl
  ·unfold gE.loop1;have e0 : ltI ((bytesOf s).length : Int) (lenS s) = false := ltI_f (by rw [lenS_b]; omega);simp only [e0, cond_false]
 ·rw [neI_t (by omega), cond_true];unfold bytesR;cases h : bytesL (bytesOf s) with
  | none => rfl
  | some l => exact absurd (bytesL_len h) (by omega)
theorem refBytes_plain (s : ByteArray) (hs : (bytesOf s).length ≤ 1000000) : gH s = some (bytesR s) := by
 unfold gH;rw [Lf (show NonZ 2 by decide), rem2];by_cases hev : (bytesOf s).length % 2 = 0
 ·rw [eqI_f (by omega), cond_false];refine bytes_loop s hs hev _ (fun k l h hl => ?_) fun l => ?_
  ·unfold gH.loop1;have e0 : ltI ((2 * k : Nat) : Int) (lenS s) = true := ltI_t (by rw [lenS_b]; omega);have hadd : addI .i64 ((2 * k : Nat) : Int) 1 = ((2 * k + 1 : Nat) : Int) := by unfold addI; rw [wrap64 (by omega) (by omega)]; omega
   have hadd2 : addI .i64 ((2 * k : Nat) : Int) 2 = ((2 * (k + 1) : Nat) : Int) := by unfold addI; rw [wrap64 (by omega) (by omega)]; omega
   have i1 : InB ((2 * k : Nat) : Int) (lenS s) := ⟨by omega, by rw [lenS_b]; omega⟩;have i2 : InB ((2 * k + 1 : Nat) : Int) (lenS s) := ⟨by omega, by rw [lenS_b]; omega⟩;simp only [e0, cond_true, hadd, hadd2, idx_b s (2 * k) (by omega), idx_b s (2 * k + 1) h, hex_eq, Lh, Option.getD_some];rw [Lf i1, Lf (under_of i2), Lf (show Under _ _ ((some _ : Option Int).isSome = true) from fun _ => rfl)];have r1 := hexV_rng (bytesOf s)[2 * k];have r2 := hexV_rng (bytesOf s)[2 * k + 1];rw [pickB_or];by_cases hn : hexV (bytesOf s)[2 * k] < 0 ∨ hexV (bytesOf s)[2 * k + 1] < 0
   ·rw [if_pos hn];have : (ltI (hexV (bytesOf s)[2 * k]) 0 || ltI (hexV (bytesOf s)[2 * k + 1]) 0) = true := by simpa [ltI] using hn
    rw [this, cond_true]
   ·rw [if_neg hn];have : (ltI (hexV (bytesOf s)[2 * k]) 0 || ltI (hexV (bytesOf s)[2 * k + 1]) 0) = false := by simpa [ltI] using hn
    rw [this, cond_false, Lf i1, Lf i2, Lf (show AppB _ 1 1 by constructor <;> simp only [lenL] <;> omega), push_eq (by omega) (by omega) (by omega) (by omega)];rfl
  ·unfold gH.loop1;have e0 : ltI ((bytesOf s).length : Int) (lenS s) = false := ltI_f (by rw [lenS_b]; omega);simp only [e0, cond_false]
 ·rw [eqI_t (by omega), cond_true];unfold bytesR;cases h : bytesL (bytesOf s) with
  | none => rfl
  | some l => exact absurd (bytesL_len h) (by omega)
theorem cut_plain (s : ByteArray) (_hs : s.size ≤ maxLen) (n : Nat) : ∃ t : ByteArray, gaf s (n : Int) = some t ∧ (bytesOf t).length ≤ n := by
 unfold gaf;by_cases h : (n : Int) < lenS s
 ·rw [ltI_t h, cond_true, Lf (show CutB 0 _ _ from ⟨by omega, by omega, by omega⟩)];refine ⟨_, rfl, ?_⟩;rw [cutS_b];simp;omega
 ·rw [ltI_f h, cond_false];rw [lenS_b] at h;exact ⟨_, rfl, by omega⟩
end Go.Proofs
end
section
namespace Go.Proofs
open Go.Ab
noncomputable def gar (x0 : Td) : Option (Bool × Td) :=
 ((gai x0)).bind fun r1 =>
 ((
  bif (ltI 1 r1.1) then (
   ((gaj r1.2 2)).bind fun r2 =>
   some (.go r2)
  ) else (
    some (.go r1.2)
  )
  : Option (Fl Td (Bool × Td))).bind fun f => flC f fun (v1 : Td) =>
  some ((eqI r1.1 1), v1)
 )
noncomputable def gan.loop1 (r11 : Int × Td) (s1 : Int × List Int × Td) : Option (Fl (Int × List Int × Td) (Fl (List Int × Td) (Ta × Bool × Td))) :=
 bif (ltI s1.1 r11.1) then (
  ((gOctetReaderU32 s1.2.2)).bind fun r12 =>
  need (AppB (lenL s1.2.1) 1 4) <|
  some (.go ((addI .u8 s1.1 1), (appL s1.2.1 [r12.1]), r12.2))
 ) else (
   some (.out (.go (s1.2.1, s1.2.2)))
 )
noncomputable def gan (x0 : Ta) (k0 : Bool) (x1 : Td) (x2 : Int) : Option (Ta × Bool × Td) :=
 bif (eqI x2 114) then (
  ((gai x1)).bind fun r1 =>
  ((gao r1.2 (cvtI .i64 r1.1))).bind fun r2 =>
  ((gai r2.2)).bind fun r3 =>
  ((gao r3.2 (cvtI .i64 r3.1))).bind fun r4 =>
  some ((Ta.mk x0.fb r2.1 r4.1 x0.fc x0.fOf x0.fg x0.fh x0.fOn x0.fe x0.fa), k0, r4.2)
 ) else (
   bif (eqI x2 112) then (
    ((gaq x1)).bind fun r5 =>
    some ((Ta.mk x0.fb x0.fd x0.ff (cvtI .i64 r5.1) x0.fOf x0.fg x0.fh x0.fOn x0.fe x0.fa), k0, r5.2)
   ) else (
     bif (eqI x2 111) then (
      ((gaq x1)).bind fun r6 =>
      some ((Ta.mk x0.fb x0.fd x0.ff x0.fc (cvtI .i64 r6.1) x0.fg x0.fh x0.fOn x0.fe x0.fa), k0, r6.2)
     ) else (
       bif (eqI x2 116) then (
        ((gai x1)).bind fun r7 =>
        some ((Ta.mk x0.fb x0.fd x0.ff x0.fc x0.fOf (cvtI .i64 r7.1) x0.fh x0.fOn x0.fe x0.fa), k0, r7.2)
       ) else (
         bif (eqI x2 108) then (
          ((gai x1)).bind fun r8 =>
          some ((Ta.mk x0.fb x0.fd x0.ff x0.fc x0.fOf x0.fg (cvtI .i64 r8.1) x0.fOn x0.fe x0.fa), k0, r8.2)
         ) else (
           bif (eqI x2 98) then (
            ((gar x1)).bind fun r9 =>
            some ((Ta.mk x0.fb x0.fd x0.ff x0.fc x0.fOf x0.fg x0.fh r9.1 x0.fe x0.fa), k0, r9.2)
           ) else (
             bif (eqI x2 115) then (
              ((gar x1)).bind fun r10 =>
              ((gai r10.2)).bind fun r11 =>
              need (k0 = true) <|
              ((loopF (gan.loop1 r11) (0, x0.fa, r11.2)).bind fun f => flC f fun (v1 : List Int × Td) =>
                some ((Ta.mk x0.fb x0.fd x0.ff x0.fc x0.fOf x0.fg x0.fh x0.fOn r10.1 v1.1), false, v1.2)
              )
             ) else (
               some (x0, k0, x1)
             )
           )
         )
       )
     )
   )
 )
noncomputable def gas.loop2 (r5 : ByteArray) (s2 : Td × Int × ByteArray × ByteArray × Int × Int × Int × Int × Bool × Bool × Bool × List Int × Nat) : Option (Fl (Td × Int × ByteArray × ByteArray × Int × Int × Int × Int × Bool × Bool × Bool × List Int × Nat) (Fl (Td × Int × ByteArray × ByteArray × Int × Int × Int × Int × Bool × Bool × Bool × List Int) (Ta × Int))) :=
 bif (nextB r5 s2.2.2.2.2.2.2.2.2.2.2.2.2) then (
  ((gan (Ta.mk s2.2.1 s2.2.2.1 s2.2.2.2.1 s2.2.2.2.2.1 s2.2.2.2.2.2.1 s2.2.2.2.2.2.2.1 s2.2.2.2.2.2.2.2.1 s2.2.2.2.2.2.2.2.2.1 s2.2.2.2.2.2.2.2.2.2.1 s2.2.2.2.2.2.2.2.2.2.2.2.1) s2.2.2.2.2.2.2.2.2.2.2.1 s2.1 (runeS r5 s2.2.2.2.2.2.2.2.2.2.2.2.2))).bind fun r6 =>
  some (.go (r6.2.2, r6.1.fb, r6.1.fd, r6.1.ff, r6.1.fc, r6.1.fOf, r6.1.fg, r6.1.fh, r6.1.fOn, r6.1.fe, r6.2.1, r6.1.fa, (stepS r5 s2.2.2.2.2.2.2.2.2.2.2.2.2)))
 ) else (
   some (.out (.go (s2.1, s2.2.1, s2.2.2.1, s2.2.2.2.1, s2.2.2.2.2.1, s2.2.2.2.2.2.1, s2.2.2.2.2.2.2.1, s2.2.2.2.2.2.2.2.1, s2.2.2.2.2.2.2.2.2.1, s2.2.2.2.2.2.2.2.2.2.1, s2.2.2.2.2.2.2.2.2.2.2.1, s2.2.2.2.2.2.2.2.2.2.2.2.1)))
 )
noncomputable def gas (x0 : ByteArray) : Option (Ta × Int) :=
 ((gOctetRead x0)).bind fun r1 =>
 ((gai r1)).bind fun r2 =>
 ((
  ((gOctetReaderErr r2.2)).bind fun r3 =>
  need (Under (eqI r3 0) true ((gN (cvtI .i64 r2.1)).isSome = true)) <|
  bif (pickB (eqI r3 0) (eqS ((gN (cvtI .i64 r2.1)).getD dflt) ⟨#[]⟩) false) then (
   ((gaj r2.2 3)).bind fun r4 =>
   some (.go r4)
  ) else (
    some (.go r2.2)
  )
  : Option (Fl Td (Ta × Int))).bind fun f => flC f fun (v1 : Td) =>
  ((gN (cvtI .i64 r2.1))).bind fun r5 =>
  ((loopF (gas.loop2 r5) (v1, (cvtI .i64 r2.1), ⟨#[]⟩, ⟨#[]⟩, 0, 0, 0, 0, false, false, true, [], 0)).bind fun f => flC f fun (v2 : Td × Int × ByteArray × ByteArray × Int × Int × Int × Int × Bool × Bool × Bool × List Int) =>
    ((gOctetReaderEnd v2.1)).bind fun r6 =>
    bif (neI r6.1 0) then (
     some ((Ta.mk 0 ⟨#[]⟩ ⟨#[]⟩ 0 0 0 0 false false []), r6.1)
    ) else (
      ((gq (Ta.mk v2.2.1 v2.2.2.1 v2.2.2.2.1 v2.2.2.2.2.1 v2.2.2.2.2.2.1 v2.2.2.2.2.2.2.1 v2.2.2.2.2.2.2.2.1 v2.2.2.2.2.2.2.2.2.1 v2.2.2.2.2.2.2.2.2.2.1 v2.2.2.2.2.2.2.2.2.2.2.2))).bind fun r7 =>
      bif (neI r7 0) then (
       some ((Ta.mk 0 ⟨#[]⟩ ⟨#[]⟩ 0 0 0 0 false false []), r7)
      ) else (
        some ((Ta.mk v2.2.1 v2.2.2.1 v2.2.2.2.1 v2.2.2.2.2.1 v2.2.2.2.2.2.1 v2.2.2.2.2.2.2.1 v2.2.2.2.2.2.2.2.1 v2.2.2.2.2.2.2.2.2.1 v2.2.2.2.2.2.2.2.2.2.1 v2.2.2.2.2.2.2.2.2.2.2.2), 0)
      )
    )
  )
 )
end Go.Proofs
end
section
namespace Go.Proofs
open Go.Ab
abbrev Cmd := Ta
def tkK {α : Type} (c : Cmd) (x : Int) (k : Cmd → Rd α) : Rd α :=
 if x = 114 then num 1 fun a => .rd a.toNat fun r => num 1 fun b => .rd b.toNat fun n => k (.mk c.fb (ofB r) (ofB n) c.fc c.fOf c.fg c.fh c.fOn c.fe c.fa)
 else if x = 112 then num 2 fun a => k (.mk c.fb c.fd c.ff a c.fOf c.fg c.fh c.fOn c.fe c.fa)
 else if x = 111 then num 2 fun a => k (.mk c.fb c.fd c.ff c.fc a c.fg c.fh c.fOn c.fe c.fa)
 else if x = 116 then num 1 fun a => k (.mk c.fb c.fd c.ff c.fc c.fOf a c.fh c.fOn c.fe c.fa)
 else if x = 108 then num 1 fun a => k (.mk c.fb c.fd c.ff c.fc c.fOf c.fg a c.fOn c.fe c.fa)
 else if x = 98 then tru fun a => k (.mk c.fb c.fd c.ff c.fc c.fOf c.fg c.fh a c.fe c.fa)
 else if x = 115 then tru fun a => num 1 fun m => many m.toNat c.fa fun ss => k (.mk c.fb c.fd c.ff c.fc c.fOf c.fg c.fh c.fOn a ss)
 else k c
def partsP : List Int → Cmd → Rd Cmd
 | [], c => .ret c
 | x :: xs, c => tkK c x (partsP xs)
def newC (k : Int) : Cmd := .mk k noS noS 0 0 0 0 false false []
def prog (k : Int) : Rd Cmd := partsP (runesL (hasL k)) (newC k)
theorem cvt64 {x : Int} (h0 : 0 ≤ x) (h1 : x < 9223372036854775808) : cvtI .i64 x = x := by
 unfold cvtI;rw [IntKind.wrap_i64];omega
theorem v1 (l : List UInt8) (e : Int) : 0 ≤ val (stp 1 l e).1 ∧ val (stp 1 l e).1 < 256 := stp_rng 1 l e
theorem v2 (l : List UInt8) (e : Int) : 0 ≤ val (stp 2 l e).1 ∧ val (stp 2 l e).1 < 65536 := stp_rng 2 l e
theorem v4 (l : List UInt8) (e : Int) : 0 ≤ val (stp 4 l e).1 ∧ val (stp 4 l e).1 < 4294967296 := stp_rng 4 l e
theorem c1 (l : List UInt8) (e : Int) : cvtI .i64 (val (stp 1 l e).1) = val (stp 1 l e).1 := cvt64 (v1 l e).1 (by have := (v1 l e).2; omega)
theorem c2 (l : List UInt8) (e : Int) : cvtI .i64 (val (stp 2 l e).1) = val (stp 2 l e).1 := cvt64 (v2 l e).1 (by have := (v2 l e).2; omega)
theorem c4 (l : List UInt8) (e : Int) : cvtI .u32 (val (stp 4 l e).1) = val (stp 4 l e).1 := by
 unfold cvtI;rw [IntKind.wrap_u32', Int.emod_eq_of_lt (v4 l e).1 (v4 l e).2]
theorem kinds {k : Int} (h : 1 ≤ k ∧ k ≤ 8) : k = 1 ∨ k = 2 ∨ k = 3 ∨ k = 4 ∨ k = 5 ∨ k = 6 ∨ k = 7 ∨ k = 8 := by omega
end Go.Proofs
end
section
namespace Go.Proofs
open Go.Ab
inductive Shp : Cmd → List UInt8 → Prop
 | join (r n : List UInt8) (hr : r.length < 256) (hn : n.length < 256) : Shp (.mk 1 (ofB r) (ofB n) 0 0 0 0 false false []) (be 1 (r.length : Int) ++ (r ++ (be 1 (n.length : Int) ++ (n ++ []))))
 | leave (p : Int) (hp : 0 ≤ p ∧ p < 65536) : Shp (.mk 2 noS noS p 0 0 0 false false []) (be 2 p ++ [])
 | publish (p t : Int) (v : Bool) (ss : List Int) (hp : 0 ≤ p ∧ p < 65536) (ht : 0 ≤ t ∧ t < 256) (hl : ss.length < 256) (hs : ∀ x ∈ ss, 0 ≤ x ∧ x < 4294967296) : Shp (.mk 3 noS noS p 0 t 0 false v ss) (be 2 p ++ (be 1 t ++ (bitB v :: (be 1 (ss.length : Int) ++ (ss.flatMap (be 4) ++ [])))))
 | unpublish (p t : Int) (hp : 0 ≤ p ∧ p < 65536) (ht : 0 ≤ t ∧ t < 256) : Shp (.mk 4 noS noS p 0 t 0 false false []) (be 2 p ++ (be 1 t ++ []))
 | subscribe (p o t l : Int) (hp : 0 ≤ p ∧ p < 65536) (ho : 0 ≤ o ∧ o < 65536) (ht : 0 ≤ t ∧ t < 256) (hl : 0 ≤ l ∧ l < 256) : Shp (.mk 5 noS noS p o t l false false []) (be 2 p ++ (be 2 o ++ (be 1 t ++ (be 1 l ++ []))))
 | unsubscribe (p o t : Int) (hp : 0 ≤ p ∧ p < 65536) (ho : 0 ≤ o ∧ o < 65536) (ht : 0 ≤ t ∧ t < 256) : Shp (.mk 6 noS noS p o t 0 false false []) (be 2 p ++ (be 2 o ++ (be 1 t ++ [])))
 | mute (p t : Int) (b : Bool) (hp : 0 ≤ p ∧ p < 65536) (ht : 0 ≤ t ∧ t < 256) : Shp (.mk 7 noS noS p 0 t 0 b false []) (be 2 p ++ (be 1 t ++ (bitB b :: [])))
 | pause (p o t : Int) (b : Bool) (hp : 0 ≤ p ∧ p < 65536) (ho : 0 ≤ o ∧ o < 65536) (ht : 0 ≤ t ∧ t < 256) : Shp (.mk 8 noS noS p o t 0 b false []) (be 2 p ++ (be 2 o ++ (be 1 t ++ (bitB b :: []))))
theorem shp_kind {c : Cmd} {s : List UInt8} (h : Shp c s) : 1 ≤ c.fb ∧ c.fb ≤ 8 := by
 cases h <;> simp
theorem shp_sizes {c : Cmd} {s : List UInt8} (h : Shp c s) : c.fd.size < 256 ∧ c.ff.size < 256 ∧ c.fa.length < 256 := by
 have h0 : noS.size = 0 := rfl;cases h <;> simp only [size_of, List.length_nil, h0] <;> omega
theorem scan_has (k : Int) : scan (ofB (hasL k)) 0 = runesL (hasL k) := by unfold scan; rw [restS_0, ofB_b]
theorem kb {k : Int} (h : 1 ≤ k ∧ k ≤ 8) : be 1 k = [k.toNat.toUInt8] := by
 rcases kinds h with h | h | h | h | h | h | h | h <;> subst h <;> rfl
end Go.Proofs
end
section
namespace Go.Proofs
open Go.Ab
def nums (l : List UInt8) : List Int := l.map fun b => (b.toNat : Int)
theorem nums_app (a b : List UInt8) : nums (a ++ b) = nums a ++ nums b := List.map_append
theorem nums_len (a : List UInt8) : lenL (nums a) = (a.length : Int) := by unfold lenL nums; rw [List.length_map]
theorem str_nums (l : List UInt8) : strOfNums (nums l) = ofB l := bytes_ext (by
 rw [nums_b, ofB_b];unfold nums;rw [List.map_map];have : ∀ b : UInt8, ((fun n : Int => n.toNat.toUInt8) ∘ fun b : UInt8 => (b.toNat : Int)) b = b := fun b => by simp
 rw [List.map_congr_left fun b _ => this b, List.map_id'])
theorem numsOf_of (l : List UInt8) : numsOf (ofB l) = nums l := numsOf_ofB l
theorem be_high : ∀ (n : Nat) (x : Int), be (n + 1) x = ((x / 256 ^ n) % 256).toNat.toUInt8 :: be n x
 | 0, x => by simp [be]
 | n + 1, x => by
   rw [be, be_high n (x / 256), be]
   have : x / 256 / 256 ^ n = x / 256 ^ (n + 1) := by
    rw [Int.pow_succ, Int.mul_comm, ← Int.ediv_ediv_of_nonneg (by omega)]
   rw [this];rfl
theorem cvtu8 (x : Int) : cvtI .u8 x = x % 256 := by unfold cvtI; rw [IntKind.wrap_u8']
theorem wnum_loop2 (x : Int) (s1 : Int × List Int) (hs : s1.1 = 0) (h0 : 0 ≤ x) : ∀ (m : Nat) (acc : List UInt8), m ≤ 8 → acc.length + m ≤ 1000000 →
  loopF (ge.loop2 [x] s1) ((m : Int) - 1, nums acc) = some (.go (nums (acc ++ be m x)))
 | 0, acc, _, _ => by
   rw [loopF_eq];simp only [ge.loop2];rw [leI_f (by omega)];simp [be]
 | m + 1, acc, hm, ha => by
   rw [loopF_eq];simp only [ge.loop2];have e1 : (((m + 1 : Nat) : Int) - 1) = (m : Int) := by omega
   rw [e1, leI_t (by omega), mulI_n (by omega) (by omega), Lf (show NonN _ by unfold NonN; omega), Lf (show AppB _ _ _ from ⟨by rw [nums_len]; omega, by rw [nums_len]; omega⟩), subI_n (by omega) (by omega), hs]
   have e2 : cvtI .u8 (shrI .u64 (nthI [x] 0) (8 * (m : Int))) = (((x / 256 ^ m) % 256).toNat.toUInt8.toNat : Int) := by
    rw [cvtu8, byte_of (by omega) (by omega)];unfold shrI;rw [show nthI [x] 0 = x from rfl]
    have : (2 : Int) ^ (min (8 * (m : Int)).toNat IntKind.u64.bits) = 256 ^ m := by
     have e3 : min (8 * (m : Int)).toNat IntKind.u64.bits = 8 * m := by
      have : IntKind.u64.bits = 64 := rfl;omega
     rw [e3, Int.pow_mul];rfl
    rw [this, Int.fdiv_eq_ediv_of_nonneg _ (by exact Int.pow_nonneg (by omega))]
   rw [e2];simp only [cond_true]
   have e4 : appL (nums acc) [(((x / 256 ^ m) % 256).toNat.toUInt8.toNat : Int)] = nums (acc ++ [((x / 256 ^ m) % 256).toNat.toUInt8]) := by
    rw [nums_app]; rfl
   rw [e4, wnum_loop2 x s1 hs h0 m _ (by omega) (by simp; omega), be_high];simp
theorem wnum_d {n : Nat} (h1 : 1 ≤ n) (h8 : n ≤ 8) {x : Int} (h0 : 0 ≤ x) (acc : List UInt8) (ha : acc.length ≤ 900000) : ge (nums acc) (n : Int) [x] = some (nums (acc ++ be n x)) := by
 unfold ge;have hm : minI (maxI (n : Int) 1) 8 = (n : Int) := by rw [minI_d, maxI_d]; omega
 rw [loopF_eq];simp only [ge.loop1, hm];rw [ltI_t (show (0 : Int) < lenL [x] by show (0 : Int) < 1; omega), Lf (show InB 0 (lenL [x]) from ⟨by omega, by show (0 : Int) < 1; omega⟩), subI_n (by omega) (by omega), wnum_loop2 x _ rfl h0 n acc (by omega) (by omega)];simp only [cond_true, Lh, flC_go];rw [addI_n (by omega) (by omega), loopF_eq];simp only [ge.loop1];rw [ltI_f (show ¬ (0 + 1 : Int) < lenL [x] by show ¬ ((0 : Int) + 1 < 1); omega)];rfl
theorem cvtu64 {x : Int} (h0 : 0 ≤ x) (h1 : x < 18446744073709551616) : cvtI .u64 x = x := by unfold cvtI; exact wrapU64 h0 h1
theorem cvtu16 {x : Int} (h0 : 0 ≤ x) (h1 : x < 65536) : cvtI .u16 x = x := by unfold cvtI; rw [IntKind.wrap_u16]; omega
theorem u16w {x : Int} (h0 : 0 ≤ x) (h1 : x < 65536) (acc : List UInt8) (ha : acc.length ≤ 900000) : gj (nums acc) [cvtI .u16 x] = some (nums (acc ++ be 2 x)) := by
 rw [cvtu16 h0 h1];unfold gj;rw [loopF_eq];simp only [gj.loop1];have := wnum_d (n := 2) (by omega) (by omega) h0 acc ha;rw [show ((2 : Nat) : Int) = 2 from rfl] at this;rw [ltI_t (show (0 : Int) < lenL [x] by show (0 : Int) < 1; omega), Lf (show InB 0 (lenL [x]) from ⟨by omega, by show (0 : Int) < 1; omega⟩), show nthI [x] 0 = x from rfl, cvtu64 h0 (by omega), this];simp only [cond_true, Lh];rw [addI_n (by omega) (by omega), loopF_eq];simp only [gj.loop1];rw [ltI_f (show ¬ (0 + 1 : Int) < lenL [x] by show ¬ ((0 : Int) + 1 < 1); omega)];rfl
theorem be_flat_len (n : Nat) (l : List Int) : (l.flatMap (be n)).length = l.length * n := by
 induction l with
 | nil => simp
 | cons a t ih => rw [List.flatMap_cons, List.length_append, ih, be_len, List.length_cons, Nat.succ_mul]; omega
theorem u32w (ss : List Int) (hs : ∀ x ∈ ss, 0 ≤ x ∧ x < 4294967296) (hl : ss.length < 256) : ∀ (t p : List Int) (acc : List UInt8), ss = p ++ t → acc.length + 4 * t.length ≤ 900000 →
  loopF (gk.loop1 ss) ((p.length : Int), nums acc) = some (.go (nums (acc ++ t.flatMap (be 4))))
 | [], p, acc, h, ha => by
   rw [loopF_eq];simp only [gk.loop1];rw [ltI_f (by unfold lenL; rw [h]; simp)];simp
 | x :: t, p, acc, h, ha => by
   have hx := hs x (by rw [h]; simp);have hL : ss.length = p.length + (t.length + 1) := by rw [h]; simp
   rw [List.length_cons] at ha;rw [loopF_eq];simp only [gk.loop1]
   have hn : nthI ss (p.length : Int) = x := by
    unfold nthI;rw [h];simp
   have := wnum_d (n := 4) (by omega) (by omega) hx.1 acc (by omega);rw [show ((4 : Nat) : Int) = 4 from rfl] at this;rw [ltI_t (by unfold lenL; omega), Lf (show InB _ _ from ⟨by omega, by unfold lenL; omega⟩), hn, cvtu64 hx.1 (by omega), this];simp only [cond_true, Lh];rw [addI_n (by omega) (by omega)];have ih := u32w ss hs hl t (p ++ [x]) (acc ++ be 4 x) (by rw [h]; simp) (by rw [List.length_append, be_len]; omega);rw [List.flatMap_cons, ← List.append_assoc, ← ih];congr 2;simp
theorem u32w_d {ss : List Int} (hs : ∀ x ∈ ss, 0 ≤ x ∧ x < 4294967296) (hl : ss.length < 256) (acc : List UInt8) (ha : acc.length ≤ 10000) : gk (nums acc) ss = some (nums (acc ++ ss.flatMap (be 4))) := by
 unfold gk;have := u32w ss hs hl ss [] acc rfl (by omega);rw [show (([] : List Int).length : Int) = 0 from rfl] at this;rw [this];rfl
theorem put_d (s : List UInt8) (hs : 0 < s.length) (hl : s.length < 256) (acc : List UInt8) (ha : acc.length ≤ 900000) : gl (nums acc) [ofB s] = some (nums (acc ++ s)) := by
 unfold gl;rw [loopF_eq];simp only [gl.loop1];rw [ltI_t (show (0 : Int) < lenL [ofB s] by show (0 : Int) < 1; omega), Lf (show InB 0 (lenL [ofB s]) from ⟨by omega, by show (0 : Int) < 1; omega⟩), show nthI [ofB s] 0 = ofB s from rfl, lenS_of, Lf (by omega), Lf (show AppB _ _ _ from ⟨by rw [nums_len]; omega, by rw [nums_len]; omega⟩), numsOf_of];simp only [cond_true];rw [addI_n (by omega) (by omega), loopF_eq];simp only [gl.loop1];rw [ltI_f (show ¬ (0 + 1 : Int) < lenL [ofB s] by show ¬ ((0 : Int) + 1 < 1); omega), ← show appL (nums acc) (nums s) = nums (acc ++ s) from (nums_app acc s).symm];rfl
def outL (c : Cmd) (x : Int) : List UInt8 :=
 if x = 114 then be 1 (lenS c.fd) ++ bytesOf c.fd ++ be 1 (lenS c.ff) ++ bytesOf c.ff
 else if x = 112 then be 2 c.fc
 else if x = 111 then be 2 c.fOf
 else if x = 116 then be 1 c.fg
 else if x = 108 then be 1 c.fh
 else if x = 98 then [bitB c.fOn]
 else if x = 115 then bitB c.fe :: (be 1 (lenL c.fa) ++ c.fa.flatMap (be 4))
 else []
structure Rng (c : Cmd) : Prop where
 room : c.fd.size < 256
 name : c.ff.size < 256
 peer : 0 ≤ c.fc ∧ c.fc < 65536
 of : 0 ≤ c.fOf ∧ c.fOf < 65536
 track : 0 ≤ c.fg ∧ c.fg < 256
 layer : 0 ≤ c.fh ∧ c.fh < 256
 len : c.fa.length < 256
 srcs : ∀ x ∈ c.fa, 0 ≤ x ∧ x < 4294967296
theorem app1 (acc : List UInt8) (x : Int) : appL (nums acc) [cvtI .u8 x] = nums (acc ++ be 1 x) := by
 have hb : be 1 x = [(x % 256).toNat.toUInt8] := by simp [be]
 rw [nums_app, hb, cvtu8];unfold appL;congr 1;show [x % 256] = [((x % 256).toNat.toUInt8.toNat : Int)];rw [byte_of (by omega) (by omega)]
theorem bit_d (b : Bool) : gY b = some ((bitB b).toNat : Int) := by cases b <;> rfl
theorem outL_len {c : Cmd} (h : Rng c) (x : Int) : (outL c x).length ≤ 2000 := by
 have a := h.room; have b := h.name; have d := h.len;unfold outL
 repeat' split
 all_goals simp only [List.length_append, List.length_cons, List.length_nil, be_len, be_flat_len, bytesOf_len]
 all_goals omega
theorem text_loop {c : Cmd} (hc : Rng c) (r : ByteArray) : ∀ (xs : List Int) (pos : Nat) (acc : List UInt8), scan r pos = xs → (114 ∈ xs → 0 < c.fd.size ∧ 0 < c.ff.size) → acc.length + 2000 * xs.length ≤ 10000 →
  loopF (gf.loop1 c r) (nums acc, pos) = some (.go (nums (acc ++ xs.flatMap (outL c)))) := by
 intro xs
 induction xs with
 | nil =>
   intro pos acc hs _ _
   have h : restS r pos = [] := by
    by_cases h : restS r pos = []
    ·exact h
    ·rw [scan_t h] at hs; cases hs
   rw [loopF_eq];simp only [gf.loop1, nextB_f h];simp
 | cons x xs ih =>
   intro pos acc hs hx ha;have h : restS r pos ≠ [] := fun h => by rw [scan_f h] at hs; cases hs
   rw [scan_t h] at hs;obtain ⟨hr, hs2⟩ := List.cons.inj hs;have hlen := outL_len hc x;rw [List.length_cons] at ha;rw [List.flatMap_cons, ← List.append_assoc, ← ih (stepS r pos) (acc ++ outL c x) hs2 (fun m => hx (List.mem_cons_of_mem _ m)) (by rw [List.length_append]; omega), loopF_eq];have hA : ∀ {q : List UInt8} {m : Int}, q.length ≤ 20000 → m ≤ 1000 → AppB (lenL (nums q)) m 1 := fun {q m} hq hm => ⟨by rw [nums_len]; omega, by rw [nums_len]; omega⟩;have a0 := hc.room; have b0 := hc.name; have d0 := hc.len;simp only [gf.loop1, nextB_t h, cond_true, hr, eqI_d];by_cases h1 : x = 114
   ·subst h1;obtain ⟨y1, y2⟩ := hx (by simp);have g1 := put_d (bytesOf c.fd) (by rw [bytesOf_len]; omega) (by rw [bytesOf_len]; omega);have g2 := put_d (bytesOf c.ff) (by rw [bytesOf_len]; omega) (by rw [bytesOf_len]; omega);rw [ofB_of] at g1 g2;rw [Lf (hA (by omega) (by omega)), app1, g1 _ (by rw [List.length_append, be_len]; omega)];simp only [decide_true, cond_true, Lh];rw [Lf (hA (by simp [be_len, bytesOf_len]; omega) (by omega)), app1, g2 _ (by simp [be_len, bytesOf_len]; omega)];simp [outL]
   by_cases h2 : x = 112
   ·subst h2;rw [u16w hc.peer.1 hc.peer.2 acc (by omega)];simp [outL]
   by_cases h3 : x = 111
   ·subst h3;rw [u16w hc.of.1 hc.of.2 acc (by omega)];simp [outL]
   by_cases h4 : x = 116
   ·subst h4;rw [Lf (hA (by omega) (by omega)), app1];simp [outL, app1, Lf (hA (q := acc) (m := 1) (by omega) (by omega))]
   by_cases h5 : x = 108
   ·subst h5;rw [Lf (hA (by omega) (by omega)), app1];simp [outL, app1, Lf (hA (q := acc) (m := 1) (by omega) (by omega))]
   by_cases h6 : x = 98
   ·subst h6;rw [bit_d];simp only [Lh, Int.reduceEq, decide_true, decide_false, cond_true, cond_false];rw [Lf (hA (by omega) (by omega))];have : appL (nums acc) [((bitB c.fOn).toNat : Int)] = nums (acc ++ [bitB c.fOn]) := by rw [nums_app]; rfl
    rw [this];simp [outL]
   by_cases h7 : x = 115
   ·subst h7;rw [bit_d c.fe];simp only [Lh, Int.reduceEq, decide_true, decide_false, cond_true, cond_false];rw [Lf (hA (by omega) (by omega))]
    have : appL (nums acc) [((bitB c.fe).toNat : Int), cvtI .u8 (lenL c.fa)] = nums (acc ++ (bitB c.fe :: be 1 (lenL c.fa))) := by
     have := app1 (acc ++ [bitB c.fe]) (lenL c.fa);rw [List.append_assoc] at this;rw [show bitB c.fe :: be 1 (lenL c.fa) = [bitB c.fe] ++ be 1 (lenL c.fa) from rfl, ← this, nums_app];simp [appL, nums]
    rw [this, u32w_d hc.srcs hc.len _ (by simp only [List.length_append, List.length_cons, be_len]; omega)];simp [outL]
   ·simp [h1, h2, h3, h4, h5, h6, h7, outL]
theorem shp_rng {c : Cmd} {s : List UInt8} (h : Shp c s) : Rng c ∧ s = (runesL (hasL c.fb)).flatMap (outL c) := by
 have h0 : noS.size = 0 := rfl;have hz := shp_sizes h;cases h <;> refine ⟨⟨hz.1, hz.2.1, ?_, ?_, ?_, ?_, hz.2.2, ?_⟩, ?_⟩ <;> try simp only [r1, r2, r3, r4, r5, r6, r7, r8]
 all_goals first
  | exact ⟨by omega, by omega⟩
  | assumption
  | exact fun x hx => by cases hx
  | simp [outL, lenS_of, ofB_b, lenL]
theorem text_d {c : Cmd} {s : List UInt8} (h : Shp c s) (hn : c.fb = 1 → 0 < c.fd.size ∧ 0 < c.ff.size) : gf c = some (ofB (be 1 c.fb ++ s)) := by
 obtain ⟨hr, hs⟩ := shp_rng h;have hk := shp_kind h;unfold gf;have hb : be 1 c.fb = [c.fb.toNat.toUInt8] := kb hk;rw [Lf (show AppB 0 1 1 from ⟨by omega, by omega⟩), has_d];simp only [Lh]
 rw [show appL ([] : List Int) [cvtI .u8 c.fb] = nums (be 1 c.fb) from app1 [] c.fb, text_loop hr (ofB (hasL c.fb)) (runesL (hasL c.fb)) 0 (be 1 c.fb) (scan_has _) (fun m => hn (by
  by_cases q : c.fb = 1
  ·exact q
  ·exfalso;rcases kinds hk with e | e | e | e | e | e | e | e
   ·exact q e
   all_goals
    rw [e] at m;simp [r2, r3, r4, r5, r6, r7, r8] at m)) (by
  rw [be_len];rcases kinds hk with e | e | e | e | e | e | e | e <;> rw [e] <;> simp [r1, r2, r3, r4, r5, r6, r7, r8])]
 simp only [Lh, flC_go];rw [← hs, Lf, str_nums];refine ⟨fun q => ?_, fun x hx => ?_⟩
 ·rw [hb] at q; cases q
 ·unfold nums at hx;obtain ⟨b, _, rfl⟩ := List.mem_map.1 hx;have := b.toNat_lt;omega
theorem rnum_loop (n : Nat) (hn : 1 ≤ n ∧ n ≤ 8) : ∀ (m : Nat) (i x : Int) (t : List UInt8), i + m = n → 0 ≤ i → 0 ≤ x → x < 18446744073709551616 → t.length + m ≤ 100 →
  loopF (gC.loop1 (n : Int)) (i, ofB t, x) = some (.go (ofB (be m x ++ t)))
 | 0, i, x, t, h1, h2, h3, h4, h5 => by
   have hm : minI (maxI (n : Int) 1) 8 = (n : Int) := by rw [minI_d, maxI_d]; omega
   rw [loopF_eq];simp only [gC.loop1, hm];rw [ltI_f (by omega)];rfl
 | m + 1, i, x, t, h1, h2, h3, h4, h5 => by
   have hm : minI (maxI (n : Int) 1) 8 = (n : Int) := by rw [minI_d, maxI_d]; omega
   have hr : remI x 256 = x % 256 := by unfold remI; exact Int.tmod_eq_emod_of_nonneg h3
   have hq : quoI .u64 x 256 = x / 256 := by unfold quoI; rw [Int.tdiv_eq_ediv_of_nonneg h3, wrapU64 (by omega) (by omega)]
   have hc : strOfNums [cvtI .u8 (remI x 256)] = ofB [(x % 256).toNat.toUInt8] := bytes_ext (by
    rw [nums_b, ofB_b, hr, cvtu8];simp)
   have hcat : catS (ofB [(x % 256).toNat.toUInt8]) (ofB t) = ofB ([(x % 256).toNat.toUInt8] ++ t) := bytes_ext (by rw [catS_b, ofB_b, ofB_b, ofB_b]);rw [loopF_eq];simp only [gC.loop1, hm];rw [ltI_t (by omega), hc, hq, hcat, Lf (show NonZ 256 by unfold NonZ; omega), Lf (show CatB _ _ by unfold CatB; rw [size_of, size_of]; simp; omega), Lf (show NonZ 256 by unfold NonZ; omega), addI_n (by omega) (by omega)];simp only [cond_true];rw [rnum_loop n hn m (i + 1) (x / 256) _ (by omega) (by omega) (by omega) (by omega) (by simp; omega), be];simp
theorem rnum_d {n : Nat} (hn : 1 ≤ n ∧ n ≤ 8) {x : Int} (h0 : 0 ≤ x) (h1 : x < 18446744073709551616) : gC (n : Int) (cvtI .u64 x) = some (ofB (be n x)) := by
 rw [cvtu64 h0 h1];unfold gC;rw [nil_ofB, rnum_loop n hn n 0 x [] (by omega) (by omega) h0 h1 (by simp; omega)];simp
theorem rn1 {x : Int} (h : 0 ≤ x ∧ x < 256) : gC 1 (cvtI .u64 x) = some (ofB (be 1 x)) := rnum_d (n := 1) (by omega) h.1 (by omega)
theorem rn2 {x : Int} (h : 0 ≤ x ∧ x < 65536) : gC 2 (cvtI .u64 x) = some (ofB (be 2 x)) := rnum_d (n := 2) (by omega) h.1 (by omega)
theorem rn4 {x : Int} (h : 0 ≤ x ∧ x < 4294967296) : gC 4 (cvtI .u64 x) = some (ofB (be 4 x)) := rnum_d (n := 4) (by omega) h.1 (by omega)
theorem cat_of (a b : List UInt8) : catS (ofB a) (ofB b) = ofB (a ++ b) := bytes_ext (by rw [catS_b, ofB_b, ofB_b, ofB_b])
theorem need_cat {α : Type} {a b : List UInt8} {x : Option α} (h : a.length + b.length ≤ 1000000) : need (CatB (ofB a) (ofB b)) x = x := Lf (by unfold CatB; rw [size_of, size_of]; omega)
theorem rbit_d (b : Bool) : gag b = some (ofB [bitB b]) := by cases b <;> rfl
theorem rtext_loop (c : Cmd) (hs : ∀ x ∈ c.fa, 0 ≤ x ∧ x < 4294967296) (hl : c.fa.length < 256) : ∀ (t p : List Int) (acc : List UInt8), c.fa = p ++ t → acc.length + 4 * t.length ≤ 900000 →
  loopF (gD.loop6 c) ((p.length : Int), ofB acc) = some (.go (ofB (acc ++ t.flatMap (be 4))))
 | [], p, acc, h, ha => by
   rw [loopF_eq];simp only [gD.loop6];rw [ltI_f (by unfold lenL; rw [h]; simp)];simp
 | x :: t, p, acc, h, ha => by
   have hx := hs x (by rw [h]; simp);have hL : c.fa.length = p.length + (t.length + 1) := by rw [h]; simp
   rw [List.length_cons] at ha;rw [loopF_eq];simp only [gD.loop6]
   have hn : nthI c.fa (p.length : Int) = x := by
    unfold nthI;rw [h];simp
   rw [ltI_t (by unfold lenL; omega), Lf (show InB _ _ from ⟨by omega, by unfold lenL; omega⟩), hn, rn4 hx];simp only [cond_true, Lh, cat_of];rw [need_cat (by rw [be_len]; omega), addI_n (by omega) (by omega)];have ih := rtext_loop c hs hl t (p ++ [x]) (acc ++ be 4 x) (by rw [h]; simp) (by rw [List.length_append, be_len]; omega);rw [List.flatMap_cons, ← List.append_assoc, ← ih];congr 2;simp
theorem rtext_d {c : Cmd} {s : List UInt8} (h : Shp c s) : gD c = some (ofB (be 1 c.fb ++ s)) := by
 unfold gD gab gQ;cases h
 case join r n hr hn =>
  simp (disch := first | omega | (simp only [List.length_append, be_len]; omega)) only [lenS_of, rn1, Lh, need_cat, cat_of, eqI_d, decide_true, cond_true];simp
 case publish p t v ss hp ht hl hs =>
  have hloop := rtext_loop (.mk 3 noS noS p 0 t 0 false v ss) hs hl ss [] (be 1 3 ++ be 2 p ++ be 1 t ++ ([bitB v] ++ be 1 (ss.length : Int))) rfl (by simp [be_len]; omega);rw [show (([] : List Int).length : Int) = 0 from rfl] at hloop;have hle : lenL ss = (ss.length : Int) := rfl;simp (disch := first | omega | (simp only [List.length_append, be_len, List.length_cons, List.length_nil]; omega)) only [hle, rbit_d, rn1, rn2, Lh, flC_go, need_cat, cat_of, eqI_d, leI_d, Int.reduceEq, Int.reduceLE, pickB, decide_true, decide_false, cond_true, cond_false, hloop];simp
 all_goals
  simp (disch := first | omega | (simp only [List.length_append, be_len, List.length_cons, List.length_nil]; omega)) only [rbit_d, rn1, rn2, Lh, flC_go, need_cat, cat_of, eqI_d, leI_d, Int.reduceEq, Int.reduceLE, pickB, decide_true, decide_false, cond_true, cond_false];simp
end Go.Proofs
end
