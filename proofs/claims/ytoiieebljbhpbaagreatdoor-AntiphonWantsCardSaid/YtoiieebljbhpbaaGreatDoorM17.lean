import Derived.Test.YtoiieebljbhpbaaGreatDoorM20
import Derived.Test.YtoiieebljbhpbaaGreatDoorM13
import Derived.Test.YtoiieebljbhpbaaGreatDoorM16
import Derived.Lib.MapLaws
import Derived.Laws.Cover4
import Derived.Test.YtoiieebljbhpbaaGreatDoorTs
section
set_option maxRecDepth 100000
namespace Go.Ab
open Go.Proofs Go.Maps Go.RowKit Go.Sort Go.Shelf Go.Lib ChangeMaps
def c3 (x : L3) : List AV := [.lit (.int .i64 x.1), .lit (.int .i64 x.2.1), .lit (.int .i64 x.2.2)]
def d3 : AV → L3
 | .agg [.lit (.int _ a), .lit (.int _ b), .lit (.int _ c)] => (a, b, c)
 | _ => (0, 0, 0)
def keys3 (es : List (AV × AV)) : List L3 := es.map fun e => d3 e.1
def Keys3Z (l : List L3) : Prop := l.length * 24 ≤ 140737488355328
def Keys3 (es : List (AV × AV)) : Prop := ∀ e ∈ es, e.1 = .agg (c3 (d3 e.1))
@[simp] def keysLS (k : Nat) : Sp
  | [.mp i], M => match M[i]? with
    | some (.mapo _) => some { av := .fn k [.mp i] }
    | _ => none
  | _, _ => none
@[simp] def sortedLS (k c : Nat) : Sp
  | [.fn k' [.mp i], .lit v], M => (match M[i]? with
    | some (.mapo es) => some { av := .sl ((srt3 (keys3 es)).map c3) .no, obl := Keys3 es ∧ Keys3Z (keys3 es) ∧ k' = k ∧ v = .func (.func c) #[] #[] }
    | _ => none)
  | _, _ => none
theorem keysL_c (mb : Option Nat) (w : World) : Calls Tryz.prog 43 #[.map mb] w fun e w' => e = .returned (.func (.func 93) #[] #[.pointer (some ⟨w.heap.size, 0, none⟩)]) ∧ w' = w.alloc (.cells #[.map mb] 28) := by
 go_enter Tryz.func43, Tryz.ntmps43
 go_wp2;go_ret;exact ⟨rfl, rfl⟩
theorem keysL_ok : qap Tryz.prog 43 (keysLS 93) := by
 intro l M out h;unfold keysLS at h;split at h
 ·rename_i i;split at h
  ·cases h;intro g vs hM sm hr _;cases hr with | cons hv hr => cases hr with | nil =>
   cases hv with
   | mp _ hi =>
   refine ⟨enters_of Tryz.func43 (by kernel_rfl) rfl _ _, ?_⟩;refine (keysL_c _ _).mono fun e w' => ?_;rintro ⟨rfl, rfl⟩;have hw : (g.w.alloc (.cells #[.map (some (g.β i))] 28)).heap = g.w.heap.push (.cells #[.map (some (g.β i))] 28) := rfl;refine ⟨_, rfl, g.β, g.ρ, ?_, ?_, ?_⟩
   ·simp only [G.out, Option.getD_none];exact sim_push hw sm
   ·simp only [G.out, Option.getD_none];refine .fn _ [.mp i] (fun _ => g.w.heap.size) (fun _ => .map (some (g.β i))) (fun j hj => ?_) (fun j hj hreg => ?_) (fun j hj => ?_)
    ·simp [World.cell?, hw]
    ·have := sm.inb _ hreg;simp at this
    ·have hj0 : j = 0 := by simp at hj; omega
     subst hj0;exact .mp (g := { g with w := g.w.alloc (.cells #[.map (some (g.β i))] 28) }) i hi
   ·simp only [G.out, Option.getD_none];exact keep_push hw
  ·cases h
 ·cases h
theorem R.rows3 {g : G} {w' : World} (sm : Sim g) {gb cap : Nat} {l : List L3} (hH : HoldsK cs3 3 w' gb 0 l.toArray) (hbase : g.w.heap.size ≤ gb) (hc : l.length ≤ cap) : R { g with w := w' } (.sl (l.map c3) .no) (.slice (some ⟨gb, 0, none⟩) l.length cap) := by
 have hlen : (l.map c3).length = l.length := by simp
 have q : R { g with w := w' } (.sl (l.map c3) .no) (.slice (some ⟨gb, 0, none⟩) (l.map c3).length cap) := by
  refine .sl _ .no gb 0 3 cap (fun i j => (cs3 l[i]!)[j]!) (fun i hi => by simp [c3]) (fun i j hi hj => ?_) (fun i j hi hj hr => ?_) (fun i j hi hj => ?_) (fun i j hi hj => ?_) trivial (by omega)
  ·have h1 := (hH (i * 3 + j) (by simp only [size_flatK, List.size_toArray]; omega)).1;rw [get_flatK _ _ _ _ (by simp only [List.size_toArray]; omega)] at h1;have e1 : (i * 3 + j) / 3 = i := by omega
   have e2 : (i * 3 + j) % 3 = j := by omega
   rw [e1, e2] at h1;simp only [id, ← Nat.add_assoc] at h1;simpa using h1
  ·have := sm.inb _ hr;simp only at this;omega
  ·have hi' : i < l.length := by omega
   have hj' : j < 3 := by simpa [c3] using hj
   have e : l[i]! = l[i] := by simp [hi']
   simp only [List.getElem_map, e];rcases (show j = 0 ∨ j = 1 ∨ j = 2 by omega) with rfl | rfl | rfl <;> exact .lit _
  ·rcases (show j = 0 ∨ j = 1 ∨ j = 2 by omega) with rfl | rfl | rfl <;> rfl
 rw [hlen] at q; exact q
theorem fn_inv3 {g : G} {f : Nat} {i : Nat} {v : Value} (h : R g (.fn f [.mp i]) v) : ∃ b, v = .func (.func f) #[] #[.pointer (some ⟨b, 0, none⟩)] ∧ g.w.cell? ⟨b, 0, none⟩ = some (.map (some (g.β i))) ∧ i < g.M.length := by
 cases h with
 | fn _ _ bs us h1 h2 h3 =>
   have h4 := h3 0 (by simp);simp only [List.getElem_cons_zero] at h4;generalize hu : us 0 = u at h4;cases h4 with
   | mp _ hi =>
     refine ⟨bs 0, by simp [List.range_succ], ?_, hi⟩;have := h1 0 (by simp);rw [hu] at this; exact this
theorem sortedL_ok : qap Tryz.prog 42 (sortedLS 93 44) := by
 intro l M out h;unfold sortedLS at h;split at h
 ·rename_i k' i v0;split at h
  ·rename_i es hMi
   ·cases h;intro g vs hM sm hr ho;subst hM;obtain ⟨ho1, ho2, rfl, rfl⟩ := ho;cases hr with | cons hv hr => cases hr with | cons hu hr => cases hr with | nil =>
    obtain ⟨b, rfl, hcell, hi⟩ := fn_inv3 hv;obtain rfl := hu.lit_inv;refine ⟨enters_of Tryz.func42 (by kernel_rfl) rfl _ _, ?_⟩;obtain ⟨ents, clock, hh, hst, he⟩ := map_at sm hMi
    have hK : ents.toList.map (·.key) = (keys3 es).map kv3 := by
     have : ∀ (es : List (AV × AV)) (l : List MapEntry), EntR g es l → Keys3 es → l.map (·.key) = (keys3 es).map kv3 := by
      intro es l h
      induction h with
      | nil => intro _; rfl
      | @cons a v es e l hk hv r ih =>
        intro q;have h1 := q (a, v) (.head _);simp only at h1;rw [h1] at hk;have h2 := hk.keyVal rfl;simp only [List.map_cons, keys3];rw [h2, ih fun e he => q e (.tail _ he)]; rfl
     exact this es ents.toList he ho1
    refine (sorted3 b (g.β i) ents clock (keys3 es) hst.1 hst.2.1 hK ho2 g.w hcell hh).mono fun e w' => ?_;rintro ⟨v, rfl, hbel, hrow⟩;refine ⟨_, rfl, g.β, g.ρ, ?_, ?_, ?_⟩
    ·simp only [G.out, Option.getD_none]; exact sim_below hbel sm
    ·simp only [G.out, Option.getD_none];rcases hrow with ⟨rfl, hz⟩ | ⟨gb, cap, rfl, hbase, hc, _, hH⟩
     ·have hn : srt3 (keys3 es) = [] := by rw [hz]; simp [srt3]
      rw [hn]; exact .nil _ trivial
     ·have hl : (keys3 es).length = (srt3 (keys3 es)).length := by simp [srt3]
      rw [hl];exact R.rows3 sm hH hbase (by rw [← hl]; exact hc)
    ·simp only [G.out, Option.getD_none]; exact keep_below hbel
  ·cases h
 ·cases h
end Go.Ab
end
section
namespace Go.Ab
open Go.Lib
def qar (s : ByteArray) : List UInt8 := s.data.toList
theorem bytesOf_len (s : ByteArray) : (qar s).length = s.size := Array.length_toList
theorem lenS_b (s : ByteArray) : lenS s = ((qar s).length : Int) := by rw [bytesOf_len]; rfl
theorem bytes_ext {a b : ByteArray} (h : qar a = qar b) : a = b := by
 cases a; cases b;congr 1;exact Array.ext' h
theorem eqS_b (a b : ByteArray) : eqS a b = decide (qar a = qar b) := by
 by_cases h : a = b
 ·subst h; rw [(eqS_iff a a).2 rfl]; simp
 ·have : eqS a b = false := by
   cases e : eqS a b with
   | false => rfl
   | true => exact absurd ((eqS_iff a b).1 e) h
  rw [this, decide_eq_false];exact fun q => h (bytes_ext q)
theorem neS_b (a b : ByteArray) : neS a b = !eqS a b := rfl
theorem cutS_b (s : ByteArray) (l h : Int) : qar (cutS s l h) = ((qar s).drop l.toNat).take (h.toNat - l.toNat) := by
 simp [cutS, qar, ByteArray.data_extract, List.extract_eq_take_drop]
theorem catS_b (a b : ByteArray) : qar (catS a b) = qar a ++ qar b := by
 simp [catS, qar]
theorem lit_b (l : List UInt8) : qar ⟨l.toArray⟩ = l := by simp [qar]
theorem enc_b (r : Int) : qar (Utf8.encode r) = encodeRune r := by
 unfold encodeRune;by_cases h : (0 ≤ r ∧ r < 55296) ∨ (57344 ≤ r ∧ r ≤ 1114111)
 ·have hv : Utf8.valid r = true := by simp [Utf8.valid]; omega
  obtain ⟨n, rfl⟩ : ∃ n : Nat, r = n := ⟨r.toNat, by omega⟩;unfold Utf8.encode;rw [if_pos hv];simp only [Int.toNat_natCast];by_cases h1 : n < 128
  ·rw [encodeRuneZ_one (by omega) (by omega), if_pos h1];simp [qar]
  rw [if_neg h1];by_cases h2 : n < 2048
  ·rw [encodeRuneZ_two (by omega) (by omega), if_pos h2];have e1 : ((192 + (n : Int) / 64)).toNat = 192 + n / 64 := by omega
   have e2 : ((128 + (n : Int) % 64)).toNat = 128 + n % 64 := by omega
   simp [qar, e1, e2]
  rw [if_neg h2];by_cases h3 : n < 65536
  ·rw [encodeRuneZ_three (by omega), if_pos h3];have e1 : ((224 + (n : Int) / 4096)).toNat = 224 + n / 4096 := by omega
   have e2 : ((128 + (n : Int) / 64 % 64)).toNat = 128 + n / 64 % 64 := by omega
   have e3 : ((128 + (n : Int) % 64)).toNat = 128 + n % 64 := by omega
   simp [qar, e1, e2, e3]
  ·rw [encodeRuneZ_four (by omega) (by omega), if_neg h3];have e0 : ((240 + (n : Int) / 262144)).toNat = 240 + n / 262144 := by omega
   have e1 : ((128 + (n : Int) / 4096 % 64)).toNat = 128 + n / 4096 % 64 := by omega
   have e2 : ((128 + (n : Int) / 64 % 64)).toNat = 128 + n / 64 % 64 := by omega
   have e3 : ((128 + (n : Int) % 64)).toNat = 128 + n % 64 := by omega
   simp [qar, e0, e1, e2, e3]
 ·have hv : Utf8.valid r = false := by
   cases e : Utf8.valid r with
   | false => rfl
   | true =>
     simp [Utf8.valid] at e;omega
  rw [encodeRuneZ_bad (by omega)];unfold Utf8.encode;simp only [hv, Bool.false_eq_true, if_false, Utf8.runeError];decide
theorem runes_foldl : ∀ (ns : List Int) (a : ByteArray), qar (ns.foldl (fun r n => r ++ Utf8.encode n) a) = qar a ++ ns.flatMap encodeRune
 | [], a => by simp
 | n :: ns, a => by
   rw [List.foldl_cons, runes_foldl ns, List.flatMap_cons, ← enc_b];simp [qar]
theorem runes_b (ns : List Int) : qar (runesBytes ns) = ns.flatMap encodeRune := by
 unfold runesBytes;rw [runes_foldl];rfl
theorem nums_b (ns : List Int) : qar (strOfNums ns) = ns.map fun n => n.toNat.toUInt8 := by
 simp [strOfNums, qar]
theorem numsRune_b (ns : List Int) : qar (strOfNums (ns.flatMap runeZ)) = ns.flatMap encodeRune := by
 rw [nums_b, List.map_flatMap];rfl
theorem enc_len (r : Int) : 1 ≤ (encodeRune r).length ∧ (encodeRune r).length ≤ 4 := by
 have := encodeRuneZ_length r;simpa [encodeRune] using this
def runesF : Nat → List UInt8 → List Int
 | 0, _ => []
 | n + 1, l => match l with
   | [] => []
   | a :: t => ((decodeL (a :: t)).1 : Int) :: runesF n ((a :: t).drop (decodeL (a :: t)).2)
def runesL (l : List UInt8) : List Int := runesF l.length l
theorem runesF_fuel : ∀ (n m : Nat) (l : List UInt8), l.length ≤ n → l.length ≤ m → runesF n l = runesF m l
 | 0, 0, _, _, _ => rfl
 | 0, m + 1, l, h, _ => by
   have : l = [] := List.eq_nil_of_length_eq_zero (by omega);subst this; rfl
 | n + 1, 0, l, _, h => by
   have : l = [] := List.eq_nil_of_length_eq_zero (by omega);subst this; rfl
 | n + 1, m + 1, [], _, _ => rfl
 | n + 1, m + 1, a :: t, h, h' => by
   have hw := decodeL_width (a :: t);simp only [runesF];rw [runesF_fuel n m _ (by rw [List.length_drop]; omega) (by rw [List.length_drop]; omega)]
theorem runesL_nil : runesL [] = [] := rfl
theorem runesL_cons {l : List UInt8} (h : l ≠ []) : runesL l = ((decodeL l).1 : Int) :: runesL (l.drop (decodeL l).2) := by
 cases l with
 | nil => exact absurd rfl h
 | cons a t =>
   have hw := decodeL_width (a :: t);unfold runesL;simp only [List.length_cons, runesF];rw [runesF_fuel t.length _ _ (by rw [List.length_drop]; simp only [List.length_cons]; omega) (Nat.le_refl _)]
theorem rune_rng (l : List UInt8) : 0 ≤ ((decodeL l).1 : Int) ∧ ((decodeL l).1 : Int) ≤ 1114111 := by
 have := decodeL_rune l;omega
theorem runesL_rng : ∀ (n : Nat) (l : List UInt8), l.length ≤ n → ∀ r ∈ runesL l, 0 ≤ r ∧ r ≤ 1114111
 | n, [], _, r, hr => by cases hr
 | 0, a :: t, h, _, _ => by simp at h
 | n + 1, a :: t, h, r, hr => by
   have hw := decodeL_width (a :: t);rw [runesL_cons (by simp)] at hr;rcases List.mem_cons.1 hr with rfl | hr
   ·exact rune_rng _
   ·exact runesL_rng n _ (by rw [List.length_drop]; omega) r hr
theorem runesL_len : ∀ (n : Nat) (l : List UInt8), l.length ≤ n → (runesL l).length ≤ l.length ∧ l.length ≤ 4 * (runesL l).length
 | n, [], _ => by simp [runesL_nil]
 | 0, a :: t, h => by simp at h
 | n + 1, a :: t, h => by
   have hw := decodeL_width (a :: t)
   have hw4 : (decodeL (a :: t)).2 ≤ 4 := by
    rw [decodeL_N];rcases decodeN_shape (a :: t).length ((a :: t).getD 0 0).toNat ((a :: t).getD 1 0).toNat ((a :: t).getD 2 0).toNat ((a :: t).getD 3 0).toNat with ⟨c, e⟩ | ⟨c1, c2, c3, cv, e⟩ | ⟨c1, c2, c3, c4, cv, cs, e⟩ | ⟨c1, c2, c3, c4, c5, cv, cw, e⟩ | e
    all_goals (rw [e]; dsimp only; omega)
   have ih := runesL_len n ((a :: t).drop (decodeL (a :: t)).2) (by rw [List.length_drop]; omega);rw [runesL_cons (by simp)];rw [List.length_drop] at ih;simp only [List.length_cons] at ih ⊢;omega
def restS (s : ByteArray) (pos : Nat) : List UInt8 := (qar s).drop pos
theorem restS_0 (s : ByteArray) : restS s 0 = qar s := rfl
theorem qbd (s : ByteArray) (pos : Nat) : (restS s pos).length = s.size - pos := by simp [restS, bytesOf_len]
theorem nextB_t {s : ByteArray} {pos : Nat} (h : restS s pos ≠ []) : nextB s pos = true := by
 have : 0 < (restS s pos).length := List.length_pos_iff.2 h;rw [qbd] at this;simp [nextB]; omega
theorem nextB_f {s : ByteArray} {pos : Nat} (h : restS s pos = []) : nextB s pos = false := by
 have : (restS s pos).length = 0 := by rw [h]; rfl
 rw [qbd] at this;simp [nextB]; omega
theorem runeS_d (s : ByteArray) (pos : Nat) : runeS s pos = ((decodeL (restS s pos)).1 : Int) := by
 unfold runeS restS qar;rw [decodeL_drop]
theorem stepS_d (s : ByteArray) (pos : Nat) : stepS s pos = pos + (decodeL (restS s pos)).2 := by
 unfold stepS restS qar;rw [decodeL_drop]
theorem restS_step (s : ByteArray) (pos : Nat) : restS s (stepS s pos) = (restS s pos).drop (decodeL (restS s pos)).2 := by
 rw [stepS_d];simp [restS, List.drop_drop]
theorem step_gt (s : ByteArray) (pos : Nat) : pos < stepS s pos := by
 rw [stepS_d];have := decodeL_width (restS s pos);omega
theorem rune_I32 (s : ByteArray) (pos : Nat) : I32B (runeS s pos) := by
 rw [runeS_d];have := rune_rng (restS s pos);exact ⟨by omega, by omega⟩
def scan (s : ByteArray) (pos : Nat) : List Int := runesL (restS s pos)
theorem scan_t {s : ByteArray} {pos : Nat} (h : restS s pos ≠ []) : scan s pos = runeS s pos :: scan s (stepS s pos) := by
 unfold scan;rw [runesL_cons h, restS_step, runeS_d]
theorem scan_f {s : ByteArray} {pos : Nat} (h : restS s pos = []) : scan s pos = [] := by
 unfold scan;rw [h]; rfl
theorem scan_rng (s : ByteArray) (pos : Nat) : ∀ r ∈ scan s pos, 0 ≤ r ∧ r ≤ 1114111 := runesL_rng _ _ (Nat.le_refl _)
theorem scan_len (s : ByteArray) (pos : Nat) : (scan s pos).length ≤ s.size - pos ∧ s.size - pos ≤ 4 * (scan s pos).length := by
 have := runesL_len _ (restS s pos) (Nat.le_refl _);rw [qbd] at this;exact this
theorem dec_enc {r : Int} (h : (0 ≤ r ∧ r < 55296) ∨ (57344 ≤ r ∧ r ≤ 1114111)) (t : List UInt8) : ((decodeL (encodeRune r ++ t)).1 : Int) = r ∧ (decodeL (encodeRune r ++ t)).2 = (encodeRune r).length := by
 obtain ⟨n, rfl⟩ : ∃ n : Nat, r = n := ⟨r.toNat, by omega⟩;rw [decodeL_N];unfold encodeRune;by_cases h1 : n < 128
 ·rw [encodeRuneZ_one (by omega) (by omega)];have e : ((n : Int).toNat.toUInt8).toNat = n := by simp; omega
  simp only [List.map_cons, List.map_nil, List.cons_append, List.nil_append, List.getD_cons_zero, e];unfold decodeN;rw [if_pos h1];exact ⟨rfl, rfl⟩
 by_cases h2 : n < 2048
 ·rw [encodeRuneZ_two (by omega) (by omega)]
  have e0 : ((192 + (n : Int) / 64).toNat.toUInt8).toNat = 192 + n / 64 := by
   rw [show (192 + (n : Int) / 64).toNat = 192 + n / 64 by omega]; simp; omega
  have e1 : ((128 + (n : Int) % 64).toNat.toUInt8).toNat = 128 + n % 64 := by
   rw [show (128 + (n : Int) % 64).toNat = 128 + n % 64 by omega]; simp; omega
  simp only [List.map_cons, List.map_nil, List.cons_append, List.nil_append, List.getD_cons_zero, List.getD_cons_succ, e0, e1, List.length_cons];unfold decodeN;rw [if_neg (by omega), if_pos (by omega), if_pos (by omega)];refine ⟨?_, rfl⟩;dsimp only; omega
 by_cases h3 : n < 65536
 ·rw [encodeRuneZ_three (by omega)]
  have e0 : ((224 + (n : Int) / 4096).toNat.toUInt8).toNat = 224 + n / 4096 := by
   rw [show (224 + (n : Int) / 4096).toNat = 224 + n / 4096 by omega]; simp; omega
  have e1 : ((128 + (n : Int) / 64 % 64).toNat.toUInt8).toNat = 128 + n / 64 % 64 := by
   rw [show (128 + (n : Int) / 64 % 64).toNat = 128 + n / 64 % 64 by omega]; simp; omega
  have e2 : ((128 + (n : Int) % 64).toNat.toUInt8).toNat = 128 + n % 64 := by
   rw [show (128 + (n : Int) % 64).toNat = 128 + n % 64 by omega]; simp; omega
  simp only [List.map_cons, List.map_nil, List.cons_append, List.nil_append, List.getD_cons_zero, List.getD_cons_succ, e0, e1, e2, List.length_cons];unfold decodeN;rw [if_neg (by omega), if_neg (by omega), if_pos (by omega), if_pos (by omega)];refine ⟨?_, rfl⟩;dsimp only; omega
 ·rw [encodeRuneZ_four (by omega) (by omega)]
  have e0 : ((240 + (n : Int) / 262144).toNat.toUInt8).toNat = 240 + n / 262144 := by
   rw [show (240 + (n : Int) / 262144).toNat = 240 + n / 262144 by omega]; simp; omega
  have e1 : ((128 + (n : Int) / 4096 % 64).toNat.toUInt8).toNat = 128 + n / 4096 % 64 := by
   rw [show (128 + (n : Int) / 4096 % 64).toNat = 128 + n / 4096 % 64 by omega]; simp; omega
  have e2 : ((128 + (n : Int) / 64 % 64).toNat.toUInt8).toNat = 128 + n / 64 % 64 := by
   rw [show (128 + (n : Int) / 64 % 64).toNat = 128 + n / 64 % 64 by omega]; simp; omega
  have e3 : ((128 + (n : Int) % 64).toNat.toUInt8).toNat = 128 + n % 64 := by
   rw [show (128 + (n : Int) % 64).toNat = 128 + n % 64 by omega]; simp; omega
  simp only [List.map_cons, List.map_nil, List.cons_append, List.nil_append, List.getD_cons_zero, List.getD_cons_succ, e0, e1, e2, e3, List.length_cons];unfold decodeN;rw [if_neg (by omega), if_neg (by omega), if_neg (by omega), if_pos (by omega), if_pos (by omega)];refine ⟨?_, rfl⟩;dsimp only; omega
def ValidR (r : Int) : Prop := (0 ≤ r ∧ r < 55296) ∨ (57344 ≤ r ∧ r ≤ 1114111)
theorem dec_valid (l : List UInt8) : ValidR ((decodeL l).1 : Int) := by
 unfold ValidR;rw [decodeL_N];have k0 := (l.getD 0 0).toNat_lt;have k1 := (l.getD 1 0).toNat_lt;rcases decodeN_shape l.length (l.getD 0 0).toNat (l.getD 1 0).toNat (l.getD 2 0).toNat (l.getD 3 0).toNat with ⟨c, e⟩ | ⟨c1, c2, c3, cv, e⟩ | ⟨c1, c2, c3, c4, cv, cs, e⟩ | ⟨c1, c2, c3, c4, c5, cv, cw, e⟩ | e
 all_goals (rw [e]; dsimp only; omega)
end Go.Ab
end
section
namespace Go.Proofs
open Go.Ab
noncomputable def gbc (x0 : Int) : Option Int :=
 bif (ltI x0 128) then (
  some 1
 ) else (
   bif (ltI x0 2048) then (
    some 2
   ) else (
     bif (ltI x0 65536) then (
      some 3
     ) else (
       some 4
     )
   )
 )
noncomputable def ga1 (x0 : Int) : Option Int :=
 bif (qaf (qaf (eqI x0 45) true (eqI x0 95)) true (eqI x0 46)) then (
  some 3
 ) else (
   need (I32B x0) <|
   bif (letterR x0) then (
    some 1
   ) else (
     need (I32B x0) <|
     bif (digitR x0) then (
      some 2
     ) else (
       some 0
     )
   )
 )
noncomputable def gaP.loop1 (x0 : ByteArray) (s1 : Int × List Int × Nat) : Option (Fl (Int × List Int × Nat) (Fl (List Int) (List Int × Bool))) :=
 bif (nextB x0 s1.2.2) then (
  ((gbc (runeS x0 s1.2.2))).bind fun r1 =>
  need (Under (ltI (lenS x0) (addI .i64 s1.1 r1)) false (CutB s1.1 (addI .i64 s1.1 r1) (lenS x0))) <|
  bif (qaf (ltI (lenS x0) (addI .i64 s1.1 r1)) true (neS (runesBytes [(runeS x0 s1.2.2)]) (cutS x0 s1.1 (addI .i64 s1.1 r1)))) then (
   some (.out (.out ([], false)))
  ) else (
    need (AppB (qat s1.2.1) 1 4) <|
    some (.go ((addI .i64 s1.1 r1), (appL s1.2.1 [(runeS x0 s1.2.2)]), (stepS x0 s1.2.2)))
  )
 ) else (
   some (.out (.go s1.2.1))
 )
noncomputable def gaP (x0 : ByteArray) : Option (List Int × Bool) :=
 ((loopF (gaP.loop1 x0) (0, [], 0)).bind fun f => flC f fun (v1 : List Int) =>
   some (v1, true)
 )
noncomputable def gat.loop1 (r1 : List Int × Bool) (s1 : Int) : Option (Fl Int (Fl Unit Bool)) :=
 bif (ltI s1 (qat r1.1)) then (
  need (InB s1 (qat r1.1)) <|
  ((ga1 (nthI r1.1 s1))).bind fun r2 =>
  need (Under (qaf (eqI s1 0) true (eqI s1 (subI .i64 (qat r1.1) 1))) false (Under (eqI r2 3) true (Under (eqI r2 0) false (InB (subI .i64 s1 1) (qat r1.1))))) <|
  need (Under (qaf (eqI s1 0) true (eqI s1 (subI .i64 (qat r1.1) 1))) false (Under (eqI r2 3) true (Under (eqI r2 0) false ((ga1 (nthI r1.1 (subI .i64 s1 1))).isSome = true)))) <|
  bif (qaf (eqI r2 0) true (qaf (eqI r2 3) (qaf (qaf (eqI s1 0) true (eqI s1 (subI .i64 (qat r1.1) 1))) true (eqI ((ga1 (nthI r1.1 (subI .i64 s1 1))).getD dflt) 3)) false)) then (
   some (.out (.out false))
  ) else (
    some (.go (addI .i64 s1 1))
  )
 ) else (
   some (.out (.go ()))
 )
noncomputable def gat (x0 : ByteArray) : Option Bool :=
 ((gaP x0)).bind fun r1 =>
 bif (qaf (qaf (notB r1.2) true (ltI (qat r1.1) 1)) true (ltI 16 (qat r1.1))) then (
  some false
 ) else (
   ((loopF (gat.loop1 r1) 0).bind fun f => flC f fun (_v1 : Unit) =>
     some true
   )
 )
noncomputable def gar.loop1 (x0 : ByteArray) (s1 : List Int × Nat) : Option (Fl (List Int × Nat) (Fl (List Int) ByteArray)) :=
 bif (nextB x0 s1.2) then (
  need (AppB (qat s1.1) 1 4) <|
  some (.go ((appL s1.1 [(lowerR (runeS x0 s1.2))]), (stepS x0 s1.2)))
 ) else (
   some (.out (.go s1.1))
 )
noncomputable def gar (x0 : ByteArray) : Option ByteArray :=
 ((loopF (gar.loop1 x0) ([], 0)).bind fun f => flC f fun (v1 : List Int) =>
   some (runesBytes v1)
 )
end Go.Proofs
end
section
namespace Go.Ab
def ofB (l : List UInt8) : ByteArray := ⟨l.toArray⟩
theorem ofB_b (l : List UInt8) : qar (ofB l) = l := lit_b l
theorem lenS_of (l : List UInt8) : lenS (ofB l) = (l.length : Int) := by rw [lenS_b, ofB_b]
def val (l : List UInt8) : Int := l.foldl (fun x b => x * 256 + (b.toNat : Int)) 0
def be : Nat → Int → List UInt8
 | 0, _ => []
 | n + 1, x => be n (x / 256) ++ [(x % 256).toNat.toUInt8]
theorem val_nil : val [] = 0 := rfl
theorem val_snoc (l : List UInt8) (b : UInt8) : val (l ++ [b]) = val l * 256 + (b.toNat : Int) := by simp [val]
theorem be_len : ∀ (n : Nat) (x : Int), (be n x).length = n
 | 0, _ => rfl
 | n + 1, x => by simp [be, be_len n]
theorem byte_of {x : Int} (h0 : 0 ≤ x) (h1 : x < 256) : ((x.toNat.toUInt8).toNat : Int) = x := by
 obtain ⟨n, rfl⟩ : ∃ n : Nat, x = n := ⟨x.toNat, by omega⟩;simp;omega
theorem be_val : ∀ (n : Nat) (l : List UInt8), l.length = n → be n (val l) = l
 | 0, l, h => by
   have : l = [] := List.eq_nil_of_length_eq_zero h;subst this; rfl
 | n + 1, l, h => by
   rcases List.eq_nil_or_concat l with e | ⟨q, b, e⟩
   ·subst e; simp at h
   ·rw [List.concat_eq_append] at e;subst e;have hb := b.toNat_lt;have hq : q.length = n := by simpa using h
    rw [be, val_snoc];have e1 : (val q * 256 + (b.toNat : Int)) / 256 = val q := by omega
    have e2 : (val q * 256 + (b.toNat : Int)) % 256 = b.toNat := by omega
    rw [e1, e2, be_val n q hq];simp
theorem val_rng : ∀ (n : Nat) (l : List UInt8), l.length = n → 0 ≤ val l ∧ val l < 256 ^ n
 | 0, l, h => by
   have : l = [] := List.eq_nil_of_length_eq_zero h;subst this; simp [val]
 | n + 1, l, h => by
   rcases List.eq_nil_or_concat l with e | ⟨q, b, e⟩
   ·subst e; simp at h
   ·rw [List.concat_eq_append] at e;subst e;have hb := b.toNat_lt;have ih := val_rng n q (by simpa using h);rw [val_snoc, Int.pow_succ];omega
inductive Rd (α : Type) where
 | ret (a : α)
 | rd (n : Nat) (k : List UInt8 → Rd α)
 | bad (e : Int) (k : Rd α)
def stp (n : Nat) (l : List UInt8) (e : Int) : List UInt8 × List UInt8 × Int :=
 if e ≠ 0 then ([], l, e) else if l.length < n then ([], [], 1) else (l.take n, l.drop n, 0)
def flt (x : Int) (l : List UInt8) (e : Int) : List UInt8 × Int := if e = 0 then ([], x) else (l, e)
theorem stp_err {n : Nat} {l : List UInt8} {e : Int} (h : e ≠ 0) : stp n l e = ([], l, e) := by unfold stp; rw [if_pos h]
theorem stp_short {n : Nat} {l : List UInt8} (h : l.length < n) : stp n l 0 = ([], [], 1) := by unfold stp; rw [if_neg (by simp), if_pos h]
theorem stp_ok {n : Nat} {l : List UInt8} (h : n ≤ l.length) : stp n l 0 = (l.take n, l.drop n, 0) := by unfold stp; rw [if_neg (by simp), if_neg (by omega)]
section
variable {α : Type}
def num (n : Nat) (k : Int → Rd α) : Rd α := .rd n fun b => k (val b)
def many : Nat → List Int → (List Int → Rd α) → Rd α
 | 0, acc, k => k acc
 | m + 1, acc, k => num 4 fun x => many m (acc ++ [x]) k
end
end Go.Ab
end
