import Derived.Test.YtpamnignoocogaaGreatDoorM10
import Derived.Test.YtpamnignoocogaaGreatDoorM18
namespace Go.Proofs
open Go.Ab Go.Lib
theorem enc_ascii {r : Int} (h : ValidR r) {b : UInt8} (hb : b ∈ encodeRune r) (hl : b.toNat < 128) : r = (b.toNat : Int) := by
 unfold ValidR at h;obtain ⟨n, rfl⟩ : ∃ n : Nat, r = n := ⟨r.toNat, by omega⟩;unfold encodeRune at hb;by_cases h1 : n < 128
 ·rw [encodeRuneZ_one (by omega) (by omega)] at hb;simp only [List.map_cons, List.map_nil, List.mem_cons, List.mem_nil_iff, or_false] at hb;subst hb;simp;omega
 exfalso;by_cases h2 : n < 2048
 ·rw [encodeRuneZ_two (by omega) (by omega)] at hb;have e0 : (192 + (n : Int) / 64).toNat = 192 + n / 64 := by omega
  have e1 : (128 + (n : Int) % 64).toNat = 128 + n % 64 := by omega
  simp only [List.map_cons, List.map_nil, List.mem_cons, List.mem_nil_iff, or_false, e0, e1] at hb;rcases hb with rfl | rfl <;> simp at hl <;> omega
 by_cases h3 : n < 65536
 ·rw [encodeRuneZ_three (by omega)] at hb;have e0 : (224 + (n : Int) / 4096).toNat = 224 + n / 4096 := by omega
  have e1 : (128 + (n : Int) / 64 % 64).toNat = 128 + n / 64 % 64 := by omega
  have e2 : (128 + (n : Int) % 64).toNat = 128 + n % 64 := by omega
  simp only [List.map_cons, List.map_nil, List.mem_cons, List.mem_nil_iff, or_false, e0, e1, e2] at hb;rcases hb with rfl | rfl | rfl <;> simp at hl <;> omega
 ·rw [encodeRuneZ_four (by omega) (by omega)] at hb;have e0 : (240 + (n : Int) / 262144).toNat = 240 + n / 262144 := by omega
  have e1 : (128 + (n : Int) / 4096 % 64).toNat = 128 + n / 4096 % 64 := by omega
  have e2 : (128 + (n : Int) / 64 % 64).toNat = 128 + n / 64 % 64 := by omega
  have e3 : (128 + (n : Int) % 64).toNat = 128 + n % 64 := by omega
  simp only [List.map_cons, List.map_nil, List.mem_cons, List.mem_nil_iff, or_false, e0, e1, e2, e3] at hb;rcases hb with rfl | rfl | rfl | rfl <;> simp at hl <;> omega
theorem cls_32 : clsR 32 = 0 := by
 have h1 : letterR 32 = false := by unfold letterR; decide +kernel
 have h2 : digitR 32 = false := by unfold digitR; decide +kernel
 unfold clsR;rw [if_neg (by omega), h1, h2];rfl
theorem cls_10 : clsR 10 = 0 := by
 have h1 : letterR 10 = false := by unfold letterR; decide +kernel
 have h2 : digitR 10 = false := by unfold digitR; decide +kernel
 unfold clsR;rw [if_neg (by omega), h1, h2];rfl
theorem okFrom_mem : ∀ (l : List Int) (p : Int), okFrom p l = true → ∀ r ∈ l, clsR r ≠ 0
 | [], _, _, r, hr => by cases hr
 | a :: l, p, h, r, hr => by
   rw [okFrom] at h;simp only [Bool.and_eq_true, decide_eq_true_eq] at h;rcases List.mem_cons.1 hr with rfl | hr
   ·exact h.1.1
   ·exact okFrom_mem l _ h.2 r hr
theorem good_byte {s : ByteArray} (h : goodB (scan s 0) = true) {b : UInt8} (hb : b ∈ bytesOf s) : b ≠ 32 ∧ b ≠ 10 := by
 have he : (scan s 0).flatMap encodeRune = bytesOf s := enc_runes (bytesOf s).length (bytesOf s) (Nat.le_refl _) (good_no h);rw [← he] at hb;obtain ⟨r, hr, hb⟩ := List.mem_flatMap.1 hb;have hv := runesL_valid _ (bytesOf s) (Nat.le_refl _) r hr
 have ho : okFrom 3 (scan s 0) = true := by
  simp only [goodB, Bool.and_eq_true] at h;exact h.2
 have hc := okFrom_mem _ 3 ho r hr;constructor
 ·rintro rfl;exact hc (by rw [enc_ascii hv hb (by decide)]; exact cls_32)
 ·rintro rfl;exact hc (by rw [enc_ascii hv hb (by decide)]; exact cls_10)
abbrev RN := ByteArray × ByteArray
def GoodP (p : RN) : Prop := goodB (scan p.1 0) = true ∧ goodB (scan p.2 0) = true
def joinL (p : RN) : List UInt8 := [106, 111, 105, 110] ++ 32 :: (bytesOf p.1 ++ 32 :: bytesOf p.2)
def tickL : List UInt8 := [116, 105, 99, 107]
def textL (js : List RN) : List UInt8 := js.flatMap fun p => joinL p ++ 10 :: (tickL ++ [10])
def rowsJ (js : List RN) : List ByteArray := js.flatMap fun p => [ofB (joinL p), ofB tickL]
theorem splitL_none {c : UInt8} : ∀ {p : List UInt8}, c ∉ p → splitL c p = [p]
 | [], _ => rfl
 | a :: p, h => splitL_ne_c (fun e => h (by rw [e]; exact .head _)) (splitL_none fun q => h (.tail _ q))
theorem splitL_at {c : UInt8} : ∀ {p : List UInt8} (q : List UInt8), c ∉ p → splitL c (p ++ c :: q) = p :: splitL c q
 | [], q, _ => splitL_eq_c c q
 | a :: p, q, h => splitL_ne_c (fun e => h (by rw [e]; exact .head _)) (splitL_at q fun x => h (.tail _ x))
theorem join_no {p : RN} (h : GoodP p) : (10 : UInt8) ∉ joinL p := by
 intro q;unfold joinL at q;rcases List.mem_append.1 q with q | q
 ·revert q; decide
 ·rcases List.mem_cons.1 q with q | q
  ·revert q; decide
  ·rcases List.mem_append.1 q with q | q
   ·exact (good_byte h.1 q).2 rfl
   ·rcases List.mem_cons.1 q with q | q
    ·revert q; decide
    ·exact (good_byte h.2 q).2 rfl
theorem split_text : ∀ {js : List RN}, (∀ p ∈ js, GoodP p) → splitL 10 (textL js) = (js.flatMap fun p => [joinL p, tickL]) ++ [[]]
 | [], _ => rfl
 | p :: js, h => by
   have ih := split_text (js := js) fun q hq => h q (.tail _ hq);unfold textL at ih ⊢;rw [List.flatMap_cons, List.flatMap_cons];have e : joinL p ++ 10 :: (tickL ++ [10]) ++ (js.flatMap fun p => joinL p ++ 10 :: (tickL ++ [10])) = joinL p ++ 10 :: (tickL ++ 10 :: (js.flatMap fun p => joinL p ++ 10 :: (tickL ++ [10]))) := by simp
   rw [e, splitL_at _ (join_no (h p (.head _))), splitL_at _ (show (10 : UInt8) ∉ tickL by decide), ih];rfl
theorem rows_text {js : List RN} (h : ∀ p ∈ js, GoodP p) (hb : (rowsJ js).length < 1000000) : rowsOf (splitT (ofB (textL js)) 10) = rowsJ js := by
 have e : splitT (ofB (textL js)) 10 = rowsJ js ++ [⟨#[]⟩] := by
  unfold splitT rowsJ;rw [show (ofB (textL js)).data.toList = textL js from ofB_b _, split_text h, List.map_append, List.map_flatMap];rfl
 rw [e];have hl : lenL (rowsJ js ++ [(⟨#[]⟩ : ByteArray)]) = ((rowsJ js).length : Int) + 1 := by unfold lenL; simp
 ·have hsub : subI .i64 (lenL (rowsJ js ++ [(⟨#[]⟩ : ByteArray)])) 1 = ((rowsJ js).length : Int) := by rw [hl, subI_n (by omega) (by omega)]; omega
  unfold rowsOf;rw [hsub];have hn : nthI (rowsJ js ++ [(⟨#[]⟩ : ByteArray)]) ((rowsJ js).length : Int) = ⟨#[]⟩ := by simp [nthI, List.getD_eq_getElem?_getD]
  rw [hn, eqS_rfl, cond_true, cut_to];simp
theorem split_join {p : RN} (h : GoodP p) : splitT (ofB (joinL p)) 32 = [⟨#[106, 111, 105, 110]⟩, p.1, p.2] := by
 unfold splitT;rw [show (ofB (joinL p)).data.toList = joinL p from ofB_b _];unfold joinL;rw [splitL_at _ (by decide), splitL_at _ (fun q => (good_byte h.1 q).1 rfl), splitL_none (fun q => (good_byte h.2 q).1 rfl)];simp only [List.map_cons, List.map_nil];rw [show (⟨(bytesOf p.1).toArray⟩ : ByteArray) = p.1 from ofB_of p.1, show (⟨(bytesOf p.2).toArray⟩ : ByteArray) = p.2 from ofB_of p.2]
theorem split_tick : splitT (ofB tickL) 32 = [⟨#[116, 105, 99, 107]⟩] := rfl
def cmdOf (p : RN) : Cmd := .mk 1 p.1 p.2 0 0 0 0 false false []
theorem check_join {p : RN} (h : GoodP p) : gae (cmdOf p) = some 0 := by
 have g1 := good_len h.1;have g2 := good_len h.2;unfold gae cmdOf;simp only [gal, gai, gao, gaj, Lg, getD_so, need_s, need_ss, (label_eq (s := p.1) (by omega)).2, (label_eq (s := p.2) (by omega)).2, h.1, h.2];simp [eqI_d, neI_d, ltI_d, leI_d, notB_d, pickB_and, pickB_or, lenL]
theorem join_size {p : RN} (h : GoodP p) : (ofB (joinL p)).size ≤ 200 := by
 have g1 := (good_len h.1).2;have g2 := (good_len h.2).2;rw [← bytesOf_len] at g1 g2;rw [size_of];unfold joinL;simp only [List.length_append, List.length_cons, List.length_nil];omega
theorem i0_of {α : Type} {v : α} {l : List α} : InB 0 (lenL (v :: l)) := ⟨by omega, by rw [lenL_n, List.length_cons]; omega⟩
theorem c1_of {α : Type} {v : α} {l : List α} : CutB 1 (lenL (v :: l)) (lenL (v :: l)) := ⟨by omega, by rw [lenL_n, List.length_cons]; omega, Int.le_refl _⟩
theorem e1_of {α : Type} {v : α} {l : List α} : cutL (v :: l) 1 (lenL (v :: l)) = l := cut_from (v :: l) 1
theorem h12_of : lenL verbsL ≤ 140737488355328 := by decide
theorem line_join {p : RN} (h : GoodP p) : ∃ l, Shp (cmdOf p) l ∧ ga (ofB (joinL p)) = some (Tc.mk 2 0 (ofB (be 1 1 ++ l)) 0, 0) := by
 obtain ⟨l, hl⟩ := valid_shp (Valid.join p.1 p.2 h.1 h.2) (fun x hx => by cases hx);refine ⟨l, hl, ?_⟩;have hsz := join_size h;have g1 := good_len h.1;have g2 := good_len h.2;have hn : (ofB (joinL p)).size < 4294967281 := by omega
 unfold ga gB;rw [show ([⟨#[97, 117, 100, 105, 111]⟩, ⟨#[99, 114, 101, 100, 105, 116]⟩, ⟨#[100, 97, 116, 97]⟩, ⟨#[106, 111, 105, 110]⟩, ⟨#[108, 101, 97, 118, 101]⟩, ⟨#[109, 117, 116, 101]⟩, ⟨#[112, 97, 117, 115, 101]⟩, ⟨#[115, 117, 98, 115, 99, 114, 105, 98, 101]⟩, ⟨#[116, 105, 99, 107]⟩, ⟨#[117, 110, 112, 117, 98, 108, 105, 115, 104]⟩, ⟨#[117, 110, 115, 117, 98, 115, 99, 114, 105, 98, 101]⟩, ⟨#[118, 105, 100, 101, 111]⟩] : List ByteArray) = verbsL from rfl, split_join h];simp only [Lf i0_of, Lf c1_of, Lf hn, Lf h12_of, Lg, e1_of, show ∀ l : List ByteArray, nthI (⟨#[106, 111, 105, 110]⟩ :: l) 0 = ⟨#[106, 111, 105, 110]⟩ from fun _ => rfl];rw [show hasT verbsL ⟨#[106, 111, 105, 110]⟩ = true from (Lib.containsS_iff _ _).2 (by simp [verbsL])]
 have hc : gN ⟨#[106, 111, 105, 110]⟩ [p.1, p.2] = some (cmdOf p, true) := by
  unfold gN;simp only [vq_join, pickB, cond_true];rw [eqI_t (show lenL [p.1, p.2] = 2 from rfl), cond_true, Lf (show InB 0 (lenL [p.1, p.2]) from i0_of), Lf (show InB 1 (lenL [p.1, p.2]) from ⟨by omega, by rw [lenL_n]; simp⟩)];rfl
 simp only [show notB true = false from rfl, cond_false, pl_join, hc, Lg];rw [check_eq (cmdOf p) (by show p.1.size ≤ 1000; omega) (by show p.2.size ≤ 1000; omega) (by show 0 ≤ 1000000; omega), check_join h, Lg, neI_f rfl, cond_false, text_d (c := cmdOf p) hl (fun _ => ⟨g1.1, g2.1⟩)];rfl
theorem line_tick : ga (ofB tickL) = some (Tc.mk 3 0 ⟨#[]⟩ 0, 0) := by
 have hn : (ofB tickL).size < 4294967281 := by decide
 unfold ga gB;rw [show ([⟨#[97, 117, 100, 105, 111]⟩, ⟨#[99, 114, 101, 100, 105, 116]⟩, ⟨#[100, 97, 116, 97]⟩, ⟨#[106, 111, 105, 110]⟩, ⟨#[108, 101, 97, 118, 101]⟩, ⟨#[109, 117, 116, 101]⟩, ⟨#[112, 97, 117, 115, 101]⟩, ⟨#[115, 117, 98, 115, 99, 114, 105, 98, 101]⟩, ⟨#[116, 105, 99, 107]⟩, ⟨#[117, 110, 112, 117, 98, 108, 105, 115, 104]⟩, ⟨#[117, 110, 115, 117, 98, 115, 99, 114, 105, 98, 101]⟩, ⟨#[118, 105, 100, 101, 111]⟩] : List ByteArray) = verbsL from rfl, split_tick];simp only [Lf i0_of, Lf c1_of, Lf hn, Lf h12_of, Lg, e1_of, show ∀ l : List ByteArray, nthI (⟨#[116, 105, 99, 107]⟩ :: l) 0 = ⟨#[116, 105, 99, 107]⟩ from fun _ => rfl];rw [show hasT verbsL ⟨#[116, 105, 99, 107]⟩ = true from (Lib.containsS_iff _ _).2 (by simp [verbsL])];simp only [show notB true = false from rfl, cond_false];unfold gj;simp only [vq_tick, pickB, cond_true];rw [eqI_t (show lenL ([] : List ByteArray) = 0 from rfl)];rfl
theorem rowsJ_len (js : List RN) : (rowsJ js).length = 2 * js.length := by
 induction js with
 | nil => rfl
 | cons p js ih => unfold rowsJ at ih ⊢; simp only [List.flatMap_cons, List.length_append, List.length_cons, List.length_nil, ih]; omega
theorem rowsJ_ok {js : List RN} (h : ∀ p ∈ js, GoodP p) : ∀ s ∈ rowsJ js, ga s = some (lineE s) ∧ (lineE s).2 = 0 := fun s hs => by
 obtain ⟨p, hp, hs⟩ := List.mem_flatMap.1 hs;simp only [List.mem_cons, List.mem_nil_iff, or_false] at hs;rcases hs with rfl | rfl
 ·obtain ⟨l, _, hl⟩ := line_join (h p hp);rw [lineE_of hl];exact ⟨hl, rfl⟩
 ·rw [lineE_of line_tick];exact ⟨line_tick, rfl⟩
noncomputable def evJ (p : RN) : Tc := (lineE (ofB (joinL p))).1
noncomputable def evT : Tc := (lineE (ofB tickL)).1
noncomputable def evs (js : List RN) : List Tc := js.flatMap fun p => [evJ p, evT]
theorem evs_len (js : List RN) : (evs js).length = 2 * js.length := by
 induction js with
 | nil => rfl
 | cons p js ih => unfold evs at ih ⊢; simp only [List.flatMap_cons, List.length_append, List.length_cons, List.length_nil, ih]; omega
theorem parse_all (rows : List ByteArray) (hl : rows.length ≤ 500) (h : ∀ s ∈ rows, ga s = some (lineE s) ∧ (lineE s).2 = 0) : loopF (gy.loop2 rows) (0, []) = some (.go (rows.map fun s => (lineE s).1)) := by
 obtain ⟨t, ht, hq⟩ := loop_ends (body := gy.loop2 rows) (fun st => ∃ k : Nat, k ≤ rows.length ∧ st = ((k : Int), (rows.take k).map fun s => (lineE s).1)) (fun t => t = .go (rows.map fun s => (lineE s).1)) (fun st => rows.length - st.1.toNat) (fun st hst => by
  obtain ⟨k, hk, rfl⟩ := hst;unfold gy.loop2;by_cases hlt : k < rows.length
  ·obtain ⟨h1, h2⟩ := h _ (List.getElem_mem hlt);rw [ltI_t (show (k : Int) < lenL rows by rw [lenL_n]; omega), cond_true, Lf (show InB (k : Int) (lenL rows) from ⟨by omega, by rw [lenL_n]; omega⟩), nth_n hlt, h1];simp only [Lg];rw [neI_f h2, cond_false, Lf (show AppB (lenL ((rows.take k).map fun s => (lineE s).1)) 1 40 by constructor <;> simp only [lenL, List.length_map, List.length_take] <;> omega)];have hadd : addI .i64 (k : Int) 1 = ((k + 1 : Nat) : Int) := by rw [addI_n (by omega) (by omega)]; omega
   refine ⟨⟨k + 1, hlt, ?_⟩, by simp only [hadd, Int.toNat_natCast]; omega⟩;rw [hadd, List.take_succ_eq_append_getElem hlt, List.map_append];rfl
  ·rw [ltI_f (show ¬ (k : Int) < lenL rows by rw [lenL_n]; omega), cond_false];have : k = rows.length := by omega
   subst this;rw [List.take_length];exact rfl) (0, []) ⟨0, Nat.zero_le _, rfl⟩
 rw [ht, hq]
theorem parse_js {js : List RN} (h : ∀ p ∈ js, GoodP p) (hl : js.length ≤ 9) (hsz : (textL js).length ≤ 100000) : gy (ofB (textL js)) = some (evs js, 0, 0) := by
 have hlen := rowsJ_len js;have hr := rows_text h (by omega);have h1 := splitT_pos (ofB (textL js)) 10
 have h2 : (splitT (ofB (textL js)) 10).length ≤ 1000 := by
  unfold splitT;rw [show (ofB (textL js)).data.toList = textL js from ofB_b _, split_text h, List.length_map, List.length_append];have : (js.flatMap fun p => [joinL p, tickL]).length = (rowsJ js).length := by unfold rowsJ; simp only [List.length_flatMap]; rfl
  rw [this];simp only [List.length_cons, List.length_nil];omega
 unfold gy;rw [Lf (show (ofB (textL js)).size < 4294967281 by rw [size_of]; omega), rows_d h1 h2, hr, ltI_f (show ¬ (500 : Int) < lenL (rowsJ js) by rw [lenL_n]; omega), cond_false, parse_all (rowsJ js) (by omega) fun s hs => (rowsJ_ok h s hs)];simp only [Lg, flC_go];congr 2;unfold evs rowsJ;rw [List.map_flatMap];rfl
noncomputable def nameOf (p : RN) : ByteArray := catS (catS (foldS p.1) ⟨#[47]⟩) (foldS p.2)
theorem catS_size (a b : ByteArray) : (catS a b).size = a.size + b.size := by rw [← bytesOf_len, catS_b, List.length_append, bytesOf_len, bytesOf_len]
theorem flat_len (l : List Int) : (l.flatMap encodeRune).length ≤ 4 * l.length := by
 induction l with
 | nil => simp
 | cons r l ih =>
   have := (enc_len r).2;simp only [List.flatMap_cons, List.length_append, List.length_cons];omega
theorem fold_size {s : ByteArray} (h : goodB (scan s 0) = true) : (foldS s).size ≤ 64 := by
 rw [← bytesOf_len, foldS_b];have := flat_len ((scan s 0).map lowerR);rw [List.length_map] at this;simp only [goodB, Bool.and_eq_true, decide_eq_true_eq] at h;omega
theorem good_ne {s : ByteArray} (h : goodB (scan s 0) = true) : bytesOf s ≠ [] := fun e => by
 have := (good_len h).1;rw [← bytesOf_len, e] at this;simp at this
theorem nth_mid {α : Type} [Inhabited α] (A B : List α) (x : α) : nthI (A ++ x :: B) (A.length : Int) = x := by simp [nthI, List.getD_eq_getElem?_getD]
theorem evJ_d {p : RN} (h : GoodP p) : (evJ p).fa = 2 ∧ gw (evJ p).fj = some (cmdOf p, 0) := by
 obtain ⟨l, hs, hl⟩ := line_join h;have e : evJ p = Tc.mk 2 0 (ofB (be 1 1 ++ l)) 0 := by unfold evJ; rw [lineE_of hl]
 rw [e];refine ⟨rfl, ?_⟩;rw [parse_d];exact spec_of hs (check_join h)
theorem evT_d : (evT).fa = 3 ∧ ∃ c err, gw (evT).fj = some (c, err) := by
 have e : evT = Tc.mk 3 0 ⟨#[]⟩ 0 := by unfold evT; rw [lineE_of line_tick]
 rw [e];exact ⟨rfl, noC, 1, parse_d []⟩
theorem names_loop (js : List RN) (h : ∀ p ∈ js, GoodP p) (hl : js.length ≤ 9) : ∀ (t p : List RN) (acc : List ByteArray), js = p ++ t → acc.length = p.length →
  loopF (gD.loop1 (evs js)) (((2 * p.length : Nat) : Int), acc) = some (.go (acc ++ t.map nameOf))
 | [], p, acc, e, ha => by
   have hp : js.length = p.length := by rw [e]; simp
   have hlen := evs_len js;rw [loopF_eq];unfold gD.loop1;simp only;rw [ltI_f (show ¬ ((2 * p.length : Nat) : Int) < lenL (evs js) by rw [lenL_n]; omega)];simp
 | q :: t, p, acc, e, ha => by
   have hq : GoodP q := h q (by rw [e]; simp);have hp : js.length = p.length + (t.length + 1) := by rw [e]; simp
   have hlen := evs_len js;have hpl := evs_len p;have hx : evs js = evs p ++ evJ q :: (evT :: evs t) := by rw [e]; unfold evs; simp
   have n0 : nthI (evs js) ((2 * p.length : Nat) : Int) = evJ q := by rw [hx, ← hpl]; exact nth_mid _ _ _
   have n1 : nthI (evs js) ((2 * p.length + 1 : Nat) : Int) = evT := by
    have : evs js = (evs p ++ [evJ q]) ++ evT :: evs t := by rw [hx]; simp
    rw [this];have hl1 : 2 * p.length + 1 = (evs p ++ [evJ q]).length := by simp [hpl]
    rw [hl1]; exact nth_mid _ _ _
   obtain ⟨k0, p0⟩ := evJ_d hq;obtain ⟨k1, c, err, p1⟩ := evT_d;have f1 := fold_size hq.1;have f2 := fold_size hq.2;have g1 := good_len hq.1;have g2 := good_len hq.2;have ih := names_loop js h hl t (p ++ [q]) (acc ++ [nameOf q]) (by rw [e]; simp) (by simp [ha]);have s47 : (⟨#[47]⟩ : ByteArray).size = 1 := rfl;have hadd : addI .i64 ((2 * p.length : Nat) : Int) 1 = ((2 * p.length + 1 : Nat) : Int) := by rw [addI_n (by omega) (by omega)]; omega
   have hadd2 : addI .i64 ((2 * p.length + 1 : Nat) : Int) 1 = ((2 * (p ++ [q]).length : Nat) : Int) := by rw [addI_n (by omega) (by omega)]; simp; omega
   have round0 : gD.loop1 (evs js) (((2 * p.length : Nat) : Int), acc) = some (.go (((2 * p.length + 1 : Nat) : Int), acc ++ [nameOf q])) := by
    unfold gD.loop1;simp only;rw [ltI_t (show ((2 * p.length : Nat) : Int) < lenL (evs js) by rw [lenL_n]; omega), cond_true, Lf (show InB ((2 * p.length : Nat) : Int) (lenL (evs js)) from ⟨by omega, by rw [lenL_n]; omega⟩), n0, p0];simp only [Lg];rw [eqI_t k0, eqI_t (show (0 : Int) = 0 from rfl), eqI_t (show (cmdOf q).fa = 1 from rfl)];simp only [pickB, cond_true];rw [show (cmdOf q).fc = q.1 from rfl, show (cmdOf q).fe = q.2 from rfl, fold_d (s := q.1) (by omega) (good_ne hq.1)];simp only [Lg];rw [Lf (show CatB (foldS q.1) ⟨#[47]⟩ by unfold CatB; omega), fold_d (s := q.2) (by omega) (good_ne hq.2)];simp only [Lg];rw [Lf (show CatB (catS (foldS q.1) ⟨#[47]⟩) (foldS q.2) by unfold CatB; rw [catS_size]; omega), Lf (show AppB (lenL acc) 1 16 by constructor <;> simp only [lenL] <;> omega), hadd];rfl
   have round1 : gD.loop1 (evs js) (((2 * p.length + 1 : Nat) : Int), acc ++ [nameOf q]) = some (.go (((2 * (p ++ [q]).length : Nat) : Int), acc ++ [nameOf q])) := by
    unfold gD.loop1;simp only;rw [ltI_t (show ((2 * p.length + 1 : Nat) : Int) < lenL (evs js) by rw [lenL_n]; omega), cond_true, Lf (show InB ((2 * p.length + 1 : Nat) : Int) (lenL (evs js)) from ⟨by omega, by rw [lenL_n]; omega⟩), n1, p1];simp only [Lg];rw [eqI_f (show (evT).fa ≠ 2 by rw [k1]; decide)];simp only [pickB, cond_false, hadd2]
   rw [loopF_eq, round0];simp only;rw [loopF_eq, round1];simp only;rw [ih];simp
theorem names_js {js : List RN} (h : ∀ p ∈ js, GoodP p) (hl : js.length ≤ 9) : gD (evs js) = some (js.map nameOf) := by
 unfold gD;have := names_loop js h hl js [] [] rfl rfl;simp only [List.length_nil, Nat.mul_zero, List.nil_append] at this;rw [show ((0 : Nat) : Int) = 0 from rfl] at this;rw [this];rfl
theorem nums_nil : gk [] = some ([], true) := by
 unfold gk;rw [loopF_eq];unfold gk.loop1;simp only;rw [ltI_f (show ¬ (0 : Int) < lenL ([] : List ByteArray) by decide)];rfl
theorem cmd_nil (v : ByteArray) (h : pickB (eqS v ⟨#[106, 111, 105, 110]⟩) (eqI (lenL ([] : List ByteArray)) 2) false = false) : gN v [] = some ((Ta.mk 0 ⟨#[]⟩ ⟨#[]⟩ 0 0 0 0 false false []), false) := by
 unfold gN;rw [h];simp only [ltI_f (show ¬ (2 : Int) < lenL ([] : List ByteArray) by decide), ltI_f (show ¬ (1 : Int) < lenL ([] : List ByteArray) by decide), nums_nil, Lg, notB, Bool.not_true, eqI_f (show lenL ([] : List Int) ≠ 1 by decide), eqI_f (show lenL ([] : List Int) ≠ 2 by decide), eqI_f (show lenL ([] : List Int) ≠ 3 by decide), eqI_f (show lenL ([] : List Int) ≠ 4 by decide), pickB_and, Bool.and_false, cond_false]
theorem cmd_nil' (v : ByteArray) : gN v [] = some ((Ta.mk 0 ⟨#[]⟩ ⟨#[]⟩ 0 0 0 0 false false []), false) := cmd_nil v (by rw [eqI_f (show lenL ([] : List ByteArray) ≠ 2 by decide), pickB_and, Bool.and_false])
theorem verb_audio : ∃ e err, ga ⟨#[97, 117, 100, 105, 111]⟩ = some (e, err) ∧ err ≠ 3 := by
 have hn : (⟨#[97, 117, 100, 105, 111]⟩ : ByteArray).size < 4294967281 := by decide
 unfold ga gB;rw [show ([⟨#[97, 117, 100, 105, 111]⟩, ⟨#[99, 114, 101, 100, 105, 116]⟩, ⟨#[100, 97, 116, 97]⟩, ⟨#[106, 111, 105, 110]⟩, ⟨#[108, 101, 97, 118, 101]⟩, ⟨#[109, 117, 116, 101]⟩, ⟨#[112, 97, 117, 115, 101]⟩, ⟨#[115, 117, 98, 115, 99, 114, 105, 98, 101]⟩, ⟨#[116, 105, 99, 107]⟩, ⟨#[117, 110, 112, 117, 98, 108, 105, 115, 104]⟩, ⟨#[117, 110, 115, 117, 98, 115, 99, 114, 105, 98, 101]⟩, ⟨#[118, 105, 100, 101, 111]⟩] : List ByteArray) = verbsL from rfl, show splitT ⟨#[97, 117, 100, 105, 111]⟩ 32 = [⟨#[97, 117, 100, 105, 111]⟩] from rfl];simp only [Lf i0_of, Lf c1_of, Lf hn, Lf h12_of, Lg, e1_of, show ∀ l : List ByteArray, nthI (⟨#[97, 117, 100, 105, 111]⟩ :: l) 0 = ⟨#[97, 117, 100, 105, 111]⟩ from fun _ => rfl];rw [show hasT verbsL ⟨#[97, 117, 100, 105, 111]⟩ = true from (Lib.containsS_iff _ _).2 (by simp [verbsL])];simp only [show notB true = false from rfl, cond_false];simp only [pl_audio, Lg, cond_false, cmd_nil'];exact ⟨_, _, rfl, by decide⟩
theorem verb_credit : ∃ e err, ga ⟨#[99, 114, 101, 100, 105, 116]⟩ = some (e, err) ∧ err ≠ 3 := by
 have hn : (⟨#[99, 114, 101, 100, 105, 116]⟩ : ByteArray).size < 4294967281 := by decide
 unfold ga gB;rw [show ([⟨#[97, 117, 100, 105, 111]⟩, ⟨#[99, 114, 101, 100, 105, 116]⟩, ⟨#[100, 97, 116, 97]⟩, ⟨#[106, 111, 105, 110]⟩, ⟨#[108, 101, 97, 118, 101]⟩, ⟨#[109, 117, 116, 101]⟩, ⟨#[112, 97, 117, 115, 101]⟩, ⟨#[115, 117, 98, 115, 99, 114, 105, 98, 101]⟩, ⟨#[116, 105, 99, 107]⟩, ⟨#[117, 110, 112, 117, 98, 108, 105, 115, 104]⟩, ⟨#[117, 110, 115, 117, 98, 115, 99, 114, 105, 98, 101]⟩, ⟨#[118, 105, 100, 101, 111]⟩] : List ByteArray) = verbsL from rfl, show splitT ⟨#[99, 114, 101, 100, 105, 116]⟩ 32 = [⟨#[99, 114, 101, 100, 105, 116]⟩] from rfl];simp only [Lf i0_of, Lf c1_of, Lf hn, Lf h12_of, Lg, e1_of, show ∀ l : List ByteArray, nthI (⟨#[99, 114, 101, 100, 105, 116]⟩ :: l) 0 = ⟨#[99, 114, 101, 100, 105, 116]⟩ from fun _ => rfl];rw [show hasT verbsL ⟨#[99, 114, 101, 100, 105, 116]⟩ = true from (Lib.containsS_iff _ _).2 (by simp [verbsL])];simp only [show notB true = false from rfl, cond_false];unfold gj;simp only [vq_credit, pickB, cond_true, cond_false];rw [eqI_f (show lenL ([] : List ByteArray) ≠ 2 by decide)];simp only [cond_false, Lg, cmd_nil'];exact ⟨_, _, rfl, by decide⟩
theorem verb_data : ∃ e err, ga ⟨#[100, 97, 116, 97]⟩ = some (e, err) ∧ err ≠ 3 := by
 have hn : (⟨#[100, 97, 116, 97]⟩ : ByteArray).size < 4294967281 := by decide
 unfold ga gB;rw [show ([⟨#[97, 117, 100, 105, 111]⟩, ⟨#[99, 114, 101, 100, 105, 116]⟩, ⟨#[100, 97, 116, 97]⟩, ⟨#[106, 111, 105, 110]⟩, ⟨#[108, 101, 97, 118, 101]⟩, ⟨#[109, 117, 116, 101]⟩, ⟨#[112, 97, 117, 115, 101]⟩, ⟨#[115, 117, 98, 115, 99, 114, 105, 98, 101]⟩, ⟨#[116, 105, 99, 107]⟩, ⟨#[117, 110, 112, 117, 98, 108, 105, 115, 104]⟩, ⟨#[117, 110, 115, 117, 98, 115, 99, 114, 105, 98, 101]⟩, ⟨#[118, 105, 100, 101, 111]⟩] : List ByteArray) = verbsL from rfl, show splitT ⟨#[100, 97, 116, 97]⟩ 32 = [⟨#[100, 97, 116, 97]⟩] from rfl];simp only [Lf i0_of, Lf c1_of, Lf hn, Lf h12_of, Lg, e1_of, show ∀ l : List ByteArray, nthI (⟨#[100, 97, 116, 97]⟩ :: l) 0 = ⟨#[100, 97, 116, 97]⟩ from fun _ => rfl];rw [show hasT verbsL ⟨#[100, 97, 116, 97]⟩ = true from (Lib.containsS_iff _ _).2 (by simp [verbsL])];simp only [show notB true = false from rfl, cond_false];unfold gj;simp only [vq_data, pickB, cond_true, cond_false];rw [eqI_f (show lenL ([] : List ByteArray) ≠ 2 by decide)];simp only [cond_false, Lg, cmd_nil'];exact ⟨_, _, rfl, by decide⟩
theorem verb_join : ∃ e err, ga ⟨#[106, 111, 105, 110]⟩ = some (e, err) ∧ err ≠ 3 := by
 have hn : (⟨#[106, 111, 105, 110]⟩ : ByteArray).size < 4294967281 := by decide
 unfold ga gB;rw [show ([⟨#[97, 117, 100, 105, 111]⟩, ⟨#[99, 114, 101, 100, 105, 116]⟩, ⟨#[100, 97, 116, 97]⟩, ⟨#[106, 111, 105, 110]⟩, ⟨#[108, 101, 97, 118, 101]⟩, ⟨#[109, 117, 116, 101]⟩, ⟨#[112, 97, 117, 115, 101]⟩, ⟨#[115, 117, 98, 115, 99, 114, 105, 98, 101]⟩, ⟨#[116, 105, 99, 107]⟩, ⟨#[117, 110, 112, 117, 98, 108, 105, 115, 104]⟩, ⟨#[117, 110, 115, 117, 98, 115, 99, 114, 105, 98, 101]⟩, ⟨#[118, 105, 100, 101, 111]⟩] : List ByteArray) = verbsL from rfl, show splitT ⟨#[106, 111, 105, 110]⟩ 32 = [⟨#[106, 111, 105, 110]⟩] from rfl];simp only [Lf i0_of, Lf c1_of, Lf hn, Lf h12_of, Lg, e1_of, show ∀ l : List ByteArray, nthI (⟨#[106, 111, 105, 110]⟩ :: l) 0 = ⟨#[106, 111, 105, 110]⟩ from fun _ => rfl];rw [show hasT verbsL ⟨#[106, 111, 105, 110]⟩ = true from (Lib.containsS_iff _ _).2 (by simp [verbsL])];simp only [show notB true = false from rfl, cond_false];simp only [pl_join, Lg, cond_false, cmd_nil'];exact ⟨_, _, rfl, by decide⟩
theorem verb_leave : ∃ e err, ga ⟨#[108, 101, 97, 118, 101]⟩ = some (e, err) ∧ err ≠ 3 := by
 have hn : (⟨#[108, 101, 97, 118, 101]⟩ : ByteArray).size < 4294967281 := by decide
 unfold ga gB;rw [show ([⟨#[97, 117, 100, 105, 111]⟩, ⟨#[99, 114, 101, 100, 105, 116]⟩, ⟨#[100, 97, 116, 97]⟩, ⟨#[106, 111, 105, 110]⟩, ⟨#[108, 101, 97, 118, 101]⟩, ⟨#[109, 117, 116, 101]⟩, ⟨#[112, 97, 117, 115, 101]⟩, ⟨#[115, 117, 98, 115, 99, 114, 105, 98, 101]⟩, ⟨#[116, 105, 99, 107]⟩, ⟨#[117, 110, 112, 117, 98, 108, 105, 115, 104]⟩, ⟨#[117, 110, 115, 117, 98, 115, 99, 114, 105, 98, 101]⟩, ⟨#[118, 105, 100, 101, 111]⟩] : List ByteArray) = verbsL from rfl, show splitT ⟨#[108, 101, 97, 118, 101]⟩ 32 = [⟨#[108, 101, 97, 118, 101]⟩] from rfl];simp only [Lf i0_of, Lf c1_of, Lf hn, Lf h12_of, Lg, e1_of, show ∀ l : List ByteArray, nthI (⟨#[108, 101, 97, 118, 101]⟩ :: l) 0 = ⟨#[108, 101, 97, 118, 101]⟩ from fun _ => rfl];rw [show hasT verbsL ⟨#[108, 101, 97, 118, 101]⟩ = true from (Lib.containsS_iff _ _).2 (by simp [verbsL])];simp only [show notB true = false from rfl, cond_false];simp only [pl_leave, Lg, cond_false, cmd_nil'];exact ⟨_, _, rfl, by decide⟩
theorem verb_mute : ∃ e err, ga ⟨#[109, 117, 116, 101]⟩ = some (e, err) ∧ err ≠ 3 := by
 have hn : (⟨#[109, 117, 116, 101]⟩ : ByteArray).size < 4294967281 := by decide
 unfold ga gB;rw [show ([⟨#[97, 117, 100, 105, 111]⟩, ⟨#[99, 114, 101, 100, 105, 116]⟩, ⟨#[100, 97, 116, 97]⟩, ⟨#[106, 111, 105, 110]⟩, ⟨#[108, 101, 97, 118, 101]⟩, ⟨#[109, 117, 116, 101]⟩, ⟨#[112, 97, 117, 115, 101]⟩, ⟨#[115, 117, 98, 115, 99, 114, 105, 98, 101]⟩, ⟨#[116, 105, 99, 107]⟩, ⟨#[117, 110, 112, 117, 98, 108, 105, 115, 104]⟩, ⟨#[117, 110, 115, 117, 98, 115, 99, 114, 105, 98, 101]⟩, ⟨#[118, 105, 100, 101, 111]⟩] : List ByteArray) = verbsL from rfl, show splitT ⟨#[109, 117, 116, 101]⟩ 32 = [⟨#[109, 117, 116, 101]⟩] from rfl];simp only [Lf i0_of, Lf c1_of, Lf hn, Lf h12_of, Lg, e1_of, show ∀ l : List ByteArray, nthI (⟨#[109, 117, 116, 101]⟩ :: l) 0 = ⟨#[109, 117, 116, 101]⟩ from fun _ => rfl];rw [show hasT verbsL ⟨#[109, 117, 116, 101]⟩ = true from (Lib.containsS_iff _ _).2 (by simp [verbsL])];simp only [show notB true = false from rfl, cond_false];simp only [pl_mute, Lg, cond_false, cmd_nil'];exact ⟨_, _, rfl, by decide⟩
theorem verb_pause : ∃ e err, ga ⟨#[112, 97, 117, 115, 101]⟩ = some (e, err) ∧ err ≠ 3 := by
 have hn : (⟨#[112, 97, 117, 115, 101]⟩ : ByteArray).size < 4294967281 := by decide
 unfold ga gB;rw [show ([⟨#[97, 117, 100, 105, 111]⟩, ⟨#[99, 114, 101, 100, 105, 116]⟩, ⟨#[100, 97, 116, 97]⟩, ⟨#[106, 111, 105, 110]⟩, ⟨#[108, 101, 97, 118, 101]⟩, ⟨#[109, 117, 116, 101]⟩, ⟨#[112, 97, 117, 115, 101]⟩, ⟨#[115, 117, 98, 115, 99, 114, 105, 98, 101]⟩, ⟨#[116, 105, 99, 107]⟩, ⟨#[117, 110, 112, 117, 98, 108, 105, 115, 104]⟩, ⟨#[117, 110, 115, 117, 98, 115, 99, 114, 105, 98, 101]⟩, ⟨#[118, 105, 100, 101, 111]⟩] : List ByteArray) = verbsL from rfl, show splitT ⟨#[112, 97, 117, 115, 101]⟩ 32 = [⟨#[112, 97, 117, 115, 101]⟩] from rfl];simp only [Lf i0_of, Lf c1_of, Lf hn, Lf h12_of, Lg, e1_of, show ∀ l : List ByteArray, nthI (⟨#[112, 97, 117, 115, 101]⟩ :: l) 0 = ⟨#[112, 97, 117, 115, 101]⟩ from fun _ => rfl];rw [show hasT verbsL ⟨#[112, 97, 117, 115, 101]⟩ = true from (Lib.containsS_iff _ _).2 (by simp [verbsL])];simp only [show notB true = false from rfl, cond_false];simp only [pl_pause, Lg, cond_false, cmd_nil'];exact ⟨_, _, rfl, by decide⟩
theorem verb_subscribe : ∃ e err, ga ⟨#[115, 117, 98, 115, 99, 114, 105, 98, 101]⟩ = some (e, err) ∧ err ≠ 3 := by
 have hn : (⟨#[115, 117, 98, 115, 99, 114, 105, 98, 101]⟩ : ByteArray).size < 4294967281 := by decide
 unfold ga gB;rw [show ([⟨#[97, 117, 100, 105, 111]⟩, ⟨#[99, 114, 101, 100, 105, 116]⟩, ⟨#[100, 97, 116, 97]⟩, ⟨#[106, 111, 105, 110]⟩, ⟨#[108, 101, 97, 118, 101]⟩, ⟨#[109, 117, 116, 101]⟩, ⟨#[112, 97, 117, 115, 101]⟩, ⟨#[115, 117, 98, 115, 99, 114, 105, 98, 101]⟩, ⟨#[116, 105, 99, 107]⟩, ⟨#[117, 110, 112, 117, 98, 108, 105, 115, 104]⟩, ⟨#[117, 110, 115, 117, 98, 115, 99, 114, 105, 98, 101]⟩, ⟨#[118, 105, 100, 101, 111]⟩] : List ByteArray) = verbsL from rfl, show splitT ⟨#[115, 117, 98, 115, 99, 114, 105, 98, 101]⟩ 32 = [⟨#[115, 117, 98, 115, 99, 114, 105, 98, 101]⟩] from rfl];simp only [Lf i0_of, Lf c1_of, Lf hn, Lf h12_of, Lg, e1_of, show ∀ l : List ByteArray, nthI (⟨#[115, 117, 98, 115, 99, 114, 105, 98, 101]⟩ :: l) 0 = ⟨#[115, 117, 98, 115, 99, 114, 105, 98, 101]⟩ from fun _ => rfl];rw [show hasT verbsL ⟨#[115, 117, 98, 115, 99, 114, 105, 98, 101]⟩ = true from (Lib.containsS_iff _ _).2 (by simp [verbsL])];simp only [show notB true = false from rfl, cond_false];simp only [pl_subscribe, Lg, cond_false, cmd_nil'];exact ⟨_, _, rfl, by decide⟩
theorem verb_tick : ∃ e err, ga ⟨#[116, 105, 99, 107]⟩ = some (e, err) ∧ err ≠ 3 := by
 have hn : (⟨#[116, 105, 99, 107]⟩ : ByteArray).size < 4294967281 := by decide
 unfold ga gB;rw [show ([⟨#[97, 117, 100, 105, 111]⟩, ⟨#[99, 114, 101, 100, 105, 116]⟩, ⟨#[100, 97, 116, 97]⟩, ⟨#[106, 111, 105, 110]⟩, ⟨#[108, 101, 97, 118, 101]⟩, ⟨#[109, 117, 116, 101]⟩, ⟨#[112, 97, 117, 115, 101]⟩, ⟨#[115, 117, 98, 115, 99, 114, 105, 98, 101]⟩, ⟨#[116, 105, 99, 107]⟩, ⟨#[117, 110, 112, 117, 98, 108, 105, 115, 104]⟩, ⟨#[117, 110, 115, 117, 98, 115, 99, 114, 105, 98, 101]⟩, ⟨#[118, 105, 100, 101, 111]⟩] : List ByteArray) = verbsL from rfl, show splitT ⟨#[116, 105, 99, 107]⟩ 32 = [⟨#[116, 105, 99, 107]⟩] from rfl];simp only [Lf i0_of, Lf c1_of, Lf hn, Lf h12_of, Lg, e1_of, show ∀ l : List ByteArray, nthI (⟨#[116, 105, 99, 107]⟩ :: l) 0 = ⟨#[116, 105, 99, 107]⟩ from fun _ => rfl];rw [show hasT verbsL ⟨#[116, 105, 99, 107]⟩ = true from (Lib.containsS_iff _ _).2 (by simp [verbsL])];simp only [show notB true = false from rfl, cond_false];unfold gj;simp only [vq_tick, pickB, cond_true];rw [eqI_t (show lenL ([] : List ByteArray) = 0 from rfl)];exact ⟨_, _, rfl, by decide⟩
theorem verb_unpublish : ∃ e err, ga ⟨#[117, 110, 112, 117, 98, 108, 105, 115, 104]⟩ = some (e, err) ∧ err ≠ 3 := by
 have hn : (⟨#[117, 110, 112, 117, 98, 108, 105, 115, 104]⟩ : ByteArray).size < 4294967281 := by decide
 unfold ga gB;rw [show ([⟨#[97, 117, 100, 105, 111]⟩, ⟨#[99, 114, 101, 100, 105, 116]⟩, ⟨#[100, 97, 116, 97]⟩, ⟨#[106, 111, 105, 110]⟩, ⟨#[108, 101, 97, 118, 101]⟩, ⟨#[109, 117, 116, 101]⟩, ⟨#[112, 97, 117, 115, 101]⟩, ⟨#[115, 117, 98, 115, 99, 114, 105, 98, 101]⟩, ⟨#[116, 105, 99, 107]⟩, ⟨#[117, 110, 112, 117, 98, 108, 105, 115, 104]⟩, ⟨#[117, 110, 115, 117, 98, 115, 99, 114, 105, 98, 101]⟩, ⟨#[118, 105, 100, 101, 111]⟩] : List ByteArray) = verbsL from rfl, show splitT ⟨#[117, 110, 112, 117, 98, 108, 105, 115, 104]⟩ 32 = [⟨#[117, 110, 112, 117, 98, 108, 105, 115, 104]⟩] from rfl];simp only [Lf i0_of, Lf c1_of, Lf hn, Lf h12_of, Lg, e1_of, show ∀ l : List ByteArray, nthI (⟨#[117, 110, 112, 117, 98, 108, 105, 115, 104]⟩ :: l) 0 = ⟨#[117, 110, 112, 117, 98, 108, 105, 115, 104]⟩ from fun _ => rfl];rw [show hasT verbsL ⟨#[117, 110, 112, 117, 98, 108, 105, 115, 104]⟩ = true from (Lib.containsS_iff _ _).2 (by simp [verbsL])];simp only [show notB true = false from rfl, cond_false];simp only [pl_unpublish, Lg, cond_false, cmd_nil'];exact ⟨_, _, rfl, by decide⟩
theorem verb_unsubscribe : ∃ e err, ga ⟨#[117, 110, 115, 117, 98, 115, 99, 114, 105, 98, 101]⟩ = some (e, err) ∧ err ≠ 3 := by
 have hn : (⟨#[117, 110, 115, 117, 98, 115, 99, 114, 105, 98, 101]⟩ : ByteArray).size < 4294967281 := by decide
 unfold ga gB;rw [show ([⟨#[97, 117, 100, 105, 111]⟩, ⟨#[99, 114, 101, 100, 105, 116]⟩, ⟨#[100, 97, 116, 97]⟩, ⟨#[106, 111, 105, 110]⟩, ⟨#[108, 101, 97, 118, 101]⟩, ⟨#[109, 117, 116, 101]⟩, ⟨#[112, 97, 117, 115, 101]⟩, ⟨#[115, 117, 98, 115, 99, 114, 105, 98, 101]⟩, ⟨#[116, 105, 99, 107]⟩, ⟨#[117, 110, 112, 117, 98, 108, 105, 115, 104]⟩, ⟨#[117, 110, 115, 117, 98, 115, 99, 114, 105, 98, 101]⟩, ⟨#[118, 105, 100, 101, 111]⟩] : List ByteArray) = verbsL from rfl, show splitT ⟨#[117, 110, 115, 117, 98, 115, 99, 114, 105, 98, 101]⟩ 32 = [⟨#[117, 110, 115, 117, 98, 115, 99, 114, 105, 98, 101]⟩] from rfl];simp only [Lf i0_of, Lf c1_of, Lf hn, Lf h12_of, Lg, e1_of, show ∀ l : List ByteArray, nthI (⟨#[117, 110, 115, 117, 98, 115, 99, 114, 105, 98, 101]⟩ :: l) 0 = ⟨#[117, 110, 115, 117, 98, 115, 99, 114, 105, 98, 101]⟩ from fun _ => rfl];rw [show hasT verbsL ⟨#[117, 110, 115, 117, 98, 115, 99, 114, 105, 98, 101]⟩ = true from (Lib.containsS_iff _ _).2 (by simp [verbsL])];simp only [show notB true = false from rfl, cond_false];simp only [pl_unsubscribe, Lg, cond_false, cmd_nil'];exact ⟨_, _, rfl, by decide⟩
theorem verb_video : ∃ e err, ga ⟨#[118, 105, 100, 101, 111]⟩ = some (e, err) ∧ err ≠ 3 := by
 have hn : (⟨#[118, 105, 100, 101, 111]⟩ : ByteArray).size < 4294967281 := by decide
 unfold ga gB;rw [show ([⟨#[97, 117, 100, 105, 111]⟩, ⟨#[99, 114, 101, 100, 105, 116]⟩, ⟨#[100, 97, 116, 97]⟩, ⟨#[106, 111, 105, 110]⟩, ⟨#[108, 101, 97, 118, 101]⟩, ⟨#[109, 117, 116, 101]⟩, ⟨#[112, 97, 117, 115, 101]⟩, ⟨#[115, 117, 98, 115, 99, 114, 105, 98, 101]⟩, ⟨#[116, 105, 99, 107]⟩, ⟨#[117, 110, 112, 117, 98, 108, 105, 115, 104]⟩, ⟨#[117, 110, 115, 117, 98, 115, 99, 114, 105, 98, 101]⟩, ⟨#[118, 105, 100, 101, 111]⟩] : List ByteArray) = verbsL from rfl, show splitT ⟨#[118, 105, 100, 101, 111]⟩ 32 = [⟨#[118, 105, 100, 101, 111]⟩] from rfl];simp only [Lf i0_of, Lf c1_of, Lf hn, Lf h12_of, Lg, e1_of, show ∀ l : List ByteArray, nthI (⟨#[118, 105, 100, 101, 111]⟩ :: l) 0 = ⟨#[118, 105, 100, 101, 111]⟩ from fun _ => rfl];rw [show hasT verbsL ⟨#[118, 105, 100, 101, 111]⟩ = true from (Lib.containsS_iff _ _).2 (by simp [verbsL])];simp only [show notB true = false from rfl, cond_false];simp only [pl_video, Lg, cond_false, cmd_nil'];exact ⟨_, _, rfl, by decide⟩
theorem verb_any {v : ByteArray} (h : v ∈ verbsL) : ∃ e err, ga v = some (e, err) ∧ err ≠ 3 := by
 have h' : v = ⟨#[97, 117, 100, 105, 111]⟩ ∨ v = ⟨#[99, 114, 101, 100, 105, 116]⟩ ∨ v = ⟨#[100, 97, 116, 97]⟩ ∨ v = ⟨#[106, 111, 105, 110]⟩ ∨ v = ⟨#[108, 101, 97, 118, 101]⟩ ∨ v = ⟨#[109, 117, 116, 101]⟩ ∨ v = ⟨#[112, 97, 117, 115, 101]⟩ ∨ v = ⟨#[115, 117, 98, 115, 99, 114, 105, 98, 101]⟩ ∨ v = ⟨#[116, 105, 99, 107]⟩ ∨ v = ⟨#[117, 110, 112, 117, 98, 108, 105, 115, 104]⟩ ∨ v = ⟨#[117, 110, 115, 117, 98, 115, 99, 114, 105, 98, 101]⟩ ∨ v = ⟨#[118, 105, 100, 101, 111]⟩ := by simpa only [verbsL, List.mem_cons, List.mem_nil_iff, or_false] using h
 rcases h' with rfl | rfl | rfl | rfl | rfl | rfl | rfl | rfl | rfl | rfl | rfl | rfl
 ·exact verb_audio
 ·exact verb_credit
 ·exact verb_data
 ·exact verb_join
 ·exact verb_leave
 ·exact verb_mute
 ·exact verb_pause
 ·exact verb_subscribe
 ·exact verb_tick
 ·exact verb_unpublish
 ·exact verb_unsubscribe
 ·exact verb_video
theorem rising : ∀ k : Fin 11, ltS (nthI verbsL (k.val : Int)) (nthI verbsL ((k.val + 1 : Nat) : Int)) = true := by decide +kernel
theorem verbs_loop : loopF (ge.loop1 verbsL) 0 = some (.go ()) := by
 have h12 : verbsL.length = 12 := rfl
 obtain ⟨t, ht, hq⟩ := loop_ends (body := ge.loop1 verbsL) (fun st => ∃ k : Nat, k ≤ 12 ∧ st = (k : Int)) (fun t => t = .go ()) (fun st => 12 - st.toNat) (fun st hst => by
  obtain ⟨k, hk, rfl⟩ := hst;unfold ge.loop1;by_cases hlt : k < 12
  ·have hu : nthI verbsL (k : Int) = verbsL[k]'(by omega) := nth_n (show k < verbsL.length by omega);obtain ⟨e, err, he, hne⟩ := verb_any (v := nthI verbsL (k : Int)) (hu ▸ List.getElem_mem _);rw [ltI_t (show (k : Int) < lenL verbsL by rw [lenL_n]; omega), cond_true, Lf (show InB (k : Int) (lenL verbsL) from ⟨by omega, by rw [lenL_n]; omega⟩), he];simp only [Lg];rw [eqI_f hne];have hadd : addI .i64 (k : Int) 1 = ((k + 1 : Nat) : Int) := by rw [addI_n (by omega) (by omega)]; omega
   by_cases h0 : k = 0
   ·subst h0;rw [Lf (show Under (ltI 0 ((0 : Nat) : Int)) true _ from fun q => by simp [ltI] at q), ltI_f (show ¬ (0 : Int) < ((0 : Nat) : Int) by omega)];simp only [pickB, cond_false];exact ⟨⟨1, by omega, by rw [hadd]⟩, by rw [hadd]; simp⟩
   ·have hsub : subI .i64 (k : Int) 1 = ((k - 1 : Nat) : Int) := by rw [subI_n (by omega) (by omega)]; omega
    have hr := rising ⟨k - 1, by omega⟩;simp only [show k - 1 + 1 = k by omega] at hr;rw [hsub, Lf (under_of (under_of (show InB ((k - 1 : Nat) : Int) (lenL verbsL) from ⟨by omega, by rw [lenL_n]; omega⟩))), hr];simp only [notB, Bool.not_true, pickB, cond_false];cases ltI 0 (k : Int) <;> exact ⟨⟨k + 1, by omega, by rw [hadd]⟩, by rw [hadd]; simp only [Int.toNat_natCast]; omega⟩
  ·rw [ltI_f (show ¬ (k : Int) < lenL verbsL by rw [lenL_n]; omega), cond_false];exact rfl) 0 ⟨0, by omega, rfl⟩
 rw [ht, hq]
theorem textL_snoc (js : List RN) (p : RN) : textL (js ++ [p]) = textL js ++ (joinL p ++ 10 :: (tickL ++ [10])) := by unfold textL; simp
theorem build_loop (x0 x1 : List ByteArray) (h0 : ∀ s ∈ x0, s.size ≤ maxLen) (h1 : ∀ s ∈ x1, s.size ≤ maxLen) :
  ∃ js : List RN, js.length ≤ 9 ∧ (∀ p ∈ js, GoodP p) ∧ (textL js).length ≤ 300 * js.length ∧ loopF (ge.loop2 x0 x1) (0, [], ⟨#[]⟩) = some (.go (js.map nameOf, ofB (textL js))) := by
 obtain ⟨t, ht, js, hl, hg, hz, hq⟩ := loop_ends (body := ge.loop2 x0 x1) (fun st => ∃ (k : Nat) (js : List RN), k ≤ 9 ∧ js.length ≤ k ∧ (∀ p ∈ js, GoodP p) ∧ (textL js).length ≤ 300 * js.length ∧ st = ((k : Int), js.map nameOf, ofB (textL js)))
  (fun t => ∃ js : List RN, js.length ≤ 9 ∧ (∀ p ∈ js, GoodP p) ∧ (textL js).length ≤ 300 * js.length ∧ t = .go (js.map nameOf, ofB (textL js))) (fun st => 9 - st.1.toNat) (fun st hst => by
  obtain ⟨k, js, hk, hjk, hg, hz, rfl⟩ := hst;unfold ge.loop2;simp only;by_cases hc : k < x0.length ∧ k < x1.length ∧ k < 9
  ·obtain ⟨a, b, c⟩ := hc;rw [ltI_t (show (k : Int) < lenL x0 by rw [lenL_n]; omega), ltI_t (show (k : Int) < lenL x1 by rw [lenL_n]; omega), ltI_t (show (k : Int) < 9 by omega)];simp only [pickB, cond_true];obtain ⟨r, er, lr⟩ := cut_plain x0[k] (h0 _ (List.getElem_mem a)) 60;obtain ⟨n, en, ln⟩ := cut_plain x1[k] (h1 _ (List.getElem_mem b)) 60;rw [bytesOf_len] at lr ln;rw [Lf (show InB (k : Int) (lenL x0) from ⟨by omega, by rw [lenL_n]; omega⟩), nth_n a, show gX x0[k] 60 = some r from er];simp only [Lg];rw [Lf (show InB (k : Int) (lenL x1) from ⟨by omega, by rw [lenL_n]; omega⟩), nth_n b, show gX x1[k] 60 = some n from en];simp only [Lg];rw [good_d (s := r) (by omega)];simp only [Lg];rw [good_d (s := n) (by omega), need_s];simp only [Option.getD_some];have hadd : addI .i64 (k : Int) 1 = ((k + 1 : Nat) : Int) := by rw [addI_n (by omega) (by omega)]; omega
   cases g1 : goodB (scan r 0) with
   | false =>
     simp only [notB, Bool.not_false, cond_true, Lg, flC_go, hadd];exact ⟨⟨k + 1, js, by omega, by omega, hg, hz, rfl⟩, by simp only [Int.toNat_natCast]; omega⟩
   | true =>
     cases g2 : goodB (scan n 0) with
     | false =>
       simp only [notB, Bool.not_false, Bool.not_true, cond_true, cond_false, Lg, flC_go, hadd];exact ⟨⟨k + 1, js, by omega, by omega, hg, hz, rfl⟩, by simp only [Int.toNat_natCast]; omega⟩
     | true =>
       have f1 := fold_size g1;have f2 := fold_size g2;have s1 : (⟨#[106, 111, 105, 110, 32]⟩ : ByteArray).size = 5 := rfl;have s2 : (⟨#[32]⟩ : ByteArray).size = 1 := rfl;have s3 : (⟨#[10, 116, 105, 99, 107, 10]⟩ : ByteArray).size = 6 := rfl;have s4 : (⟨#[47]⟩ : ByteArray).size = 1 := rfl;have s5 : (ofB (textL js)).size = (textL js).length := size_of _;simp only [notB, Bool.not_true, cond_false]
       rw [Lf (show CatB _ _ by unfold CatB; omega), Lf (show CatB _ _ by unfold CatB; simp only [catS_size]; omega), Lf (show CatB _ _ by unfold CatB; simp only [catS_size]; omega), Lf (show CatB _ _ by unfold CatB; simp only [catS_size]; omega),
        Lf (show CatB (ofB (textL js)) _ by unfold CatB; simp only [catS_size]; omega), rfold_d (s := r) (by omega), rfold_d (s := n) (by omega)]
       simp only [Lg];rw [Lf (show CatB _ _ by unfold CatB; omega), Lf (show CatB _ _ by unfold CatB; simp only [catS_size]; omega), Lf (show AppB (lenL (js.map nameOf)) 1 16 by constructor <;> simp only [lenL, List.length_map] <;> omega)];simp only [Lg, flC_go, hadd];have hgp : GoodP (r, n) := ⟨g1, g2⟩;refine ⟨⟨k + 1, js ++ [(r, n)], by omega, by simp; omega, fun p hp => ?_, ?_, ?_⟩, by simp only [Int.toNat_natCast]; omega⟩
       ·rcases List.mem_append.1 hp with hp | hp
        ·exact hg p hp
        ·rw [List.mem_singleton.1 hp]; exact hgp
       ·rw [textL_snoc];have := join_size hgp;rw [size_of] at this;simp only [List.length_append, List.length_cons, List.length_nil, tickL];omega
       ·have e1 : appL (js.map nameOf) [catS (catS (foldS r) ⟨#[47]⟩) (foldS n)] = (js ++ [(r, n)]).map nameOf := by rw [List.map_append]; rfl
        have e2 : catS (ofB (textL js)) (catS (catS (catS (catS ⟨#[106, 111, 105, 110, 32]⟩ r) ⟨#[32]⟩) n) ⟨#[10, 116, 105, 99, 107, 10]⟩) = ofB (textL (js ++ [(r, n)])) := by
         refine bytes_ext ?_;rw [textL_snoc];simp only [catS_b, ofB_b];congr 1;show ([106, 111, 105, 110, 32] ++ bytesOf r ++ [32] ++ bytesOf n ++ [10, 116, 105, 99, 107, 10] : List UInt8) = _;unfold joinL tickL;simp
        rw [e1, e2]
  ·have e : pickB (pickB (ltI (k : Int) (lenL x0)) (ltI (k : Int) (lenL x1)) false) (ltI (k : Int) 9) false = false := by
    rw [pickB_and, pickB_and, ltI_d, ltI_d, ltI_d, lenL_n, lenL_n];by_cases q1 : k < x0.length
    ·by_cases q2 : k < x1.length
     ·have q3 : ¬ (k : Int) < 9 := fun q => hc ⟨q1, q2, by omega⟩;simp [q3]
     ·simp [show ¬ (k : Int) < (x1.length : Int) by omega]
    ·simp [show ¬ (k : Int) < (x0.length : Int) by omega]
   rw [e, cond_false];exact ⟨js, by omega, hg, hz, rfl⟩) (0, [], ⟨#[]⟩) ⟨0, [], by omega, by simp, fun p hp => (by cases hp), by simp [textL], rfl⟩
 exact ⟨js, hl, hg, hz, by rw [ht, hq]⟩
theorem same_loop4 (l : List ByteArray) (v : List ByteArray × ByteArray) (hv : v.1 = l) (hl : l.length ≤ 1000) : loopF (ge.loop4 l v) 0 = some (.go ()) := by
 obtain ⟨t, ht, hq⟩ := loop_ends (body := ge.loop4 l v) (fun st => ∃ k : Nat, k ≤ l.length ∧ st = (k : Int)) (fun t => t = .go ()) (fun st => l.length - st.toNat) (fun st hst => by
  obtain ⟨k, hk, rfl⟩ := hst;unfold ge.loop4;rw [hv];by_cases hlt : k < l.length
  ·have hin : InB (k : Int) (lenL l) := ⟨by omega, by rw [lenL_n]; omega⟩;rw [ltI_t (show (k : Int) < lenL l by rw [lenL_n]; omega), cond_true, Lf hin, Lf hin, neS_b, eqS_rfl];simp only [Bool.not_true, cond_false];have hadd : addI .i64 (k : Int) 1 = ((k + 1 : Nat) : Int) := by rw [addI_n (by omega) (by omega)]; omega
   exact ⟨⟨k + 1, hlt, by rw [hadd]⟩, by rw [hadd]; simp only [Int.toNat_natCast]; omega⟩
  ·rw [ltI_f (show ¬ (k : Int) < lenL l by rw [lenL_n]; omega), cond_false];exact rfl) 0 ⟨0, by omega, rfl⟩
 rw [ht, hq]
theorem scriptNames_plain (x0 x1 : List ByteArray) (h0 : ∀ s ∈ x0, s.size ≤ maxLen) (h1 : ∀ s ∈ x1, s.size ≤ maxLen) : ge x0 x1 = some true := by
 obtain ⟨js, hl, hg, hz, hb⟩ := build_loop x0 x1 h0 h1;unfold ge gZ gaq gB;rw [show ([⟨#[97, 117, 100, 105, 111]⟩, ⟨#[99, 114, 101, 100, 105, 116]⟩, ⟨#[100, 97, 116, 97]⟩, ⟨#[106, 111, 105, 110]⟩, ⟨#[108, 101, 97, 118, 101]⟩, ⟨#[109, 117, 116, 101]⟩, ⟨#[112, 97, 117, 115, 101]⟩, ⟨#[115, 117, 98, 115, 99, 114, 105, 98, 101]⟩, ⟨#[116, 105, 99, 107]⟩, ⟨#[117, 110, 112, 117, 98, 108, 105, 115, 104]⟩, ⟨#[117, 110, 115, 117, 98, 115, 99, 114, 105, 98, 101]⟩, ⟨#[118, 105, 100, 101, 111]⟩] : List ByteArray) = verbsL from rfl];simp only [Lg, show notB true = false from rfl, cond_false];rw [verbs_loop];simp only [Lg, flC_go];rw [hb];simp only [Lg, flC_go];rw [parse_js hg hl (by omega)];simp only [Lg];rw [names_js hg hl];simp only [Lg];have hlen := evs_len js;rw [neI_f (show (0 : Int) = 0 from rfl), neI_f (show lenL verbsL = 12 from rfl), neI_f (show lenL (evs js) = mulI .i64 2 (lenL (js.map nameOf)) by rw [lenL_n, lenL_n, List.length_map, mulI_n (by omega) (by omega)]; omega), neI_f (show lenL (js.map nameOf) = lenL (js.map nameOf) from rfl)];simp only [pickB, cond_false];rw [same_loop4 _ (js.map nameOf, ofB (textL js)) rfl (by rw [List.length_map]; omega)];rfl
end Go.Proofs
