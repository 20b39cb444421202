import Derived.Test.YtpamnignoocogaaGreatDoorM16
import Derived.Test.YtpamnignoocogaaGreatDoorM04
import Derived.Test.YtpamnignoocogaaGreatDoorM01
import Derived.Test.YtpamnignoocogaaGreatDoorM17
import Derived.Lib.SplitLaws
import Derived.Test.YtpamnignoocogaaGreatDoorM10
import Derived.Lib.MapLaws
import Derived.Laws.Cover4
import Derived.HandedShaped
section
namespace Go.Proofs
open Go.Ab
noncomputable def ge.loop2 (x2 : List Int) (s1 : Int × List Int) (s2 : Int × List Int) : Option (Fl (Int × List Int) (Fl (List Int) (Fl (Int × List Int) (Fl (List Int) (List Int))))) :=
 bif (leqI 0 s2.1) then (
  need (NonN (mulI .i64 8 s2.1)) <|
  need (AppB (lenL s2.2) 1 1) <|
  some (.go ((subI .i64 s2.1 1), (appL s2.2 [(cvtI .u8 (shrI .u64 (nthI x2 s1.1) (mulI .i64 8 s2.1)))])))
 ) else (
   some (.out (.go s2.2))
 )
noncomputable def ge.loop1 (x1 : Int) (x2 : List Int) (s1 : Int × List Int) : Option (Fl (Int × List Int) (Fl (List Int) (List Int))) :=
 bif (ltI s1.1 (lenL x2)) then (
  need (InB s1.1 (lenL x2)) <|
  ((loopF (ge.loop2 x2 s1) ((subI .i64 (minI (maxI x1 1) 8) 1), s1.2)).bind fun f => flC f fun (v2 : List Int) =>
    some (.go ((addI .i64 s1.1 1), v2))
  )
 ) else (
   some (.out (.go s1.2))
 )
noncomputable def ge (x0 : List Int) (x1 : Int) (x2 : List Int) : Option (List Int) :=
 ((loopF (ge.loop1 x1 x2) (0, x0)).bind fun f => flC f fun (v1 : List Int) =>
   some v1
 )
noncomputable def gj.loop1 (x1 : List Int) (s1 : Int × List Int) : Option (Fl (Int × List Int) (Fl (List Int) (List Int))) :=
 bif (ltI s1.1 (lenL x1)) then (
  need (InB s1.1 (lenL x1)) <|
  ((ge s1.2 2 [(cvtI .u64 (nthI x1 s1.1))])).bind fun r1 =>
  some (.go ((addI .i64 s1.1 1), r1))
 ) else (
   some (.out (.go s1.2))
 )
noncomputable def gj (x0 : List Int) (x1 : List Int) : Option (List Int) :=
 ((loopF (gj.loop1 x1) (0, x0)).bind fun f => flC f fun (v1 : List Int) =>
   some v1
 )
noncomputable def gk.loop1 (x1 : List Int) (s1 : Int × List Int) : Option (Fl (Int × List Int) (Fl (List Int) (List Int))) :=
 bif (ltI s1.1 (lenL x1)) then (
  need (InB s1.1 (lenL x1)) <|
  ((ge s1.2 4 [(cvtI .u64 (nthI x1 s1.1))])).bind fun r1 =>
  some (.go ((addI .i64 s1.1 1), r1))
 ) else (
   some (.out (.go s1.2))
 )
noncomputable def gk (x0 : List Int) (x1 : List Int) : Option (List Int) :=
 ((loopF (gk.loop1 x1) (0, x0)).bind fun f => flC f fun (v1 : List Int) =>
   some v1
 )
noncomputable def gl.loop1 (x1 : List ByteArray) (s1 : Int × List Int) : Option (Fl (Int × List Int) (Fl (List Int) (List Int))) :=
 bif (ltI s1.1 (lenL x1)) then (
  need (InB s1.1 (lenL x1)) <|
  need (0 < lenS (nthI x1 s1.1)) <|
  need (AppB (lenL s1.2) (lenS (nthI x1 s1.1)) 1) <|
  some (.go ((addI .i64 s1.1 1), (appL s1.2 (numsOf (nthI x1 s1.1)))))
 ) else (
   some (.out (.go s1.2))
 )
noncomputable def gl (x0 : List Int) (x1 : List ByteArray) : Option (List Int) :=
 ((loopF (gl.loop1 x1) (0, x0)).bind fun f => flC f fun (v1 : List Int) =>
   some v1
 )
end Go.Proofs
end
section
namespace Go.Ab
open Go.Proofs Go.Lib
theorem index_cons (c b : UInt8) (l : List UInt8) : Lib.index (b :: l) [c] = if b = c then 0 else if Lib.index l [c] = -1 then -1 else Lib.index l [c] + 1 := by
 rw [Lib.index_one, Lib.index_one]
 conv => lhs; unfold Lib.indexByte
 by_cases h : b = c <;> simp [h]
theorem splitL_eq (c : UInt8) : ∀ l : List UInt8, Lib.split l [c] = splitL c l
 | [] => by
   show Lib.splitK [c] 0 (Lib.count [] [c]) [] = [[]];rw [Lib.count_one]; rfl
 | b :: l => by
   have ih := splitL_eq c l;unfold Lib.split at ih ⊢;unfold splitL;by_cases hb : b = c
   ·subst hb;rw [Lib.count_cons_eq, Nat.add_comm 1, Lib.splitK, index_cons];simp only [if_true, beq_self_eq_true, cond_true];rw [if_neg (by decide)];simp only [Int.toNat_zero, Nat.add_zero, List.take_zero, Nat.zero_add, List.length_singleton, List.drop_succ_cons, List.drop_zero];rw [ih]
   ·rw [Lib.count_cons_ne b c l hb, beq_eq_false_iff_ne.2 hb, cond_false];rw [Lib.count_one] at ih ⊢;rw [← ih];cases hk : l.count c with
    | zero => simp [Lib.splitK]
    | succ k =>
      have hm : c ∈ l := List.count_pos_iff.1 (by omega);have hge := Lib.index_ge l [c]
      have hi : Lib.index l [c] ≠ -1 := fun e => by
       have := Lib.count_miss e;rw [Lib.count_one] at this;omega
      unfold Lib.splitK;rw [index_cons, if_neg hb, if_neg hi];obtain ⟨j, hj⟩ : ∃ j : Nat, Lib.index l [c] = j := ⟨(Lib.index l [c]).toNat, by omega⟩;rw [hj];have e1 : (((j : Int) == -1) = true) = False := by simp <;> omega
      have e2 : (((j : Int) + 1 == -1) = true) = False := by simp <;> omega
      simp only [e1, e2, if_false];have e3 : ((j : Int) + 1).toNat = j + 1 := by omega
      rw [e3];simp 
def piecesV (s : ByteArray) (c : UInt8) : List (List AV) := (splitL c s.data.toList).map fun p => [.lit (.string ⟨p.toArray⟩)]
@[simp] theorem piecesV_eq (s : ByteArray) (c : UInt8) : piecesV s c = (splitT s c).map eTxt := by unfold piecesV splitT; rw [List.map_map]; rfl
@[simp] def splitS : Sp
  | [.lit (.string s), .lit (.string p)], _ => match p.data.toList with
    | [c] => some { av := .sl (piecesV s c) .full, obl := s.size < 4294967281 }
    | _ => none
  | _, _ => none
def splitOb (l : List AV) (_ : List AObj) : Bool := match l with
 | [.lit (.string s), _] => decide (s.size < 4294967281)
 | _ => false
theorem splitOb_spec (l : List AV) (M : List AObj) (o : Out) (h : splitS l M = some o) (hb : splitOb l M = true) : o.obl := by
 unfold splitS at h;split at h
 ·split at h
  ·cases h; exact of_decide_eq_true hb
  ·cases h
 ·cases h
end Go.Ab
namespace Go.Proofs
open Go.Ab Go.Shelf
theorem R.pieces {g : G} (sm : Sim g) {t : TypeId} (l : List ByteArray) : R { g with w := g.w.alloc (.cells (l.map Value.string).toArray t) } (.sl (l.map fun p => [.lit (.string p)]) .full) (.slice (some ⟨g.w.heap.size, 0, none⟩) l.length l.length) := by
 have q : R { g with w := g.w.alloc (.cells (l.map Value.string).toArray t) } (.sl (l.map fun p => [.lit (.string p)]) .full) (.slice (some ⟨g.w.heap.size, 0, none⟩) (l.map fun p => [AV.lit (.string p)]).length l.length) := by
  refine .sl _ .full g.w.heap.size 0 1 l.length (fun i _ => .string l[i]!) (fun i hi => by simp) (fun i j hi hj => ?_) (fun i j hi hj hr => ?_) (fun i j hi hj => ?_) (fun i j hi hj => rfl) (by simp [TokOk]) (by simp)
  ·have hi' : i < l.length := by simpa using hi
   have hj0 : j = 0 := by omega
   subst hj0;have hn : (g.w.alloc (.cells (l.map Value.string).toArray t)).heap[g.w.heap.size]? = some (.cells (l.map Value.string).toArray t) := by rw [show (g.w.alloc (.cells (l.map Value.string).toArray t)).heap = g.w.heap.push (.cells (l.map Value.string).toArray t) from rfl]; simp
   simp only [World.cell?, Nat.zero_add, Nat.mul_one, Nat.add_zero, hn, List.getElem?_toArray, List.getElem?_map];simp [hi']
  ·have := sm.inb _ hr;simp only at this;omega
  ·have hi' : i < l.length := by simpa using hi
   have hj0 : j = 0 := by simpa using hj
   subst hj0;simp only [List.getElem_map, List.getElem_singleton];have e : l[i]! = l[i] := by simp [hi']
   rw [e]; exact .lit _
 rw [List.length_map] at q; exact q
theorem gaz.ok : SpecOk Tryz.prog 20 splitS := by
 intro l M out h;unfold splitS at h;split at h
 ·rename_i s p;split at h
  ·rename_i c hc;cases h;intro g vs hM sm hr ho;cases hr with | cons hv hr => cases hr with | cons hp hr => cases hr with | nil =>
   cases hv;cases hp;refine ⟨enters_of Tryz.func20 (by kernel_rfl) rfl _ _, ?_⟩;obtain ⟨m, hm⟩ := sm.fct.here.2.2.2.2;have h1 : p.size = 1 := by rw [Lib.size_eq, hc]; rfl
   refine (Any.strings_Split Tryz.laysSplit (by kernel_rfl) s p m g.w ho hm (by omega)).mono ?_;rintro e w' ⟨rfl, rfl⟩;have hlen := Lib.splitB_all p (by omega) 0 _ s rfl
   have hP : (Lib.splitB p 0 (Lib.countB s p) s).map (fun q => [AV.lit (.string q)]) = piecesV s c := by
    unfold piecesV;rw [← splitL_eq];have e : Lib.split s.data.toList [c] = Lib.splitK p.data.toList 0 (Lib.count s.data.toList p.data.toList) s.data.toList := by rw [hc]; rfl
    rw [e, ← Lib.splitB_data, List.map_map];rfl
   refine ⟨_, rfl, g.β, g.ρ, ?_, ?_, ?_⟩
   ·simp only [G.out, Option.getD_none]; exact sim_push rfl sm
   ·simp only [G.out, Option.getD_none];have q := R.pieces sm (t := Tryz.laysSplit_ren.t 9) (Lib.splitB p 0 (Lib.countB s p) s);rw [hP, hlen] at q; exact q
   ·simp only [G.out, Option.getD_none]; exact keep_push rfl
  ·cases h
 ·cases h
end Go.Proofs
end
section
namespace Go.Ab
open Go.Lib
def bytesOf (s : ByteArray) : List UInt8 := s.data.toList
theorem bytesOf_len (s : ByteArray) : (bytesOf s).length = s.size := Array.length_toList
theorem lenS_b (s : ByteArray) : lenS s = ((bytesOf s).length : Int) := by rw [bytesOf_len]; rfl
theorem bytes_ext {a b : ByteArray} (h : bytesOf a = bytesOf b) : a = b := by
 cases a; cases b;congr 1;exact Array.ext' h
theorem eqS_b (a b : ByteArray) : eqS a b = decide (bytesOf a = bytesOf b) := by
 by_cases h : a = b
 ·subst h; rw [(eqS_iff a a).2 rfl]; simp
 ·have : eqS a b = false := by
   cases e : eqS a b with
   | false => rfl
   | true => exact absurd ((eqS_iff a b).1 e) h
  rw [this, decide_eq_false];exact fun q => h (bytes_ext q)
theorem neS_b (a b : ByteArray) : neS a b = !eqS a b := rfl
theorem cutS_b (s : ByteArray) (l h : Int) : bytesOf (cutS s l h) = ((bytesOf s).drop l.toNat).take (h.toNat - l.toNat) := by
 simp [cutS, bytesOf, ByteArray.data_extract, List.extract_eq_take_drop]
theorem catS_b (a b : ByteArray) : bytesOf (catS a b) = bytesOf a ++ bytesOf b := by
 simp [catS, bytesOf]
theorem lit_b (l : List UInt8) : bytesOf ⟨l.toArray⟩ = l := by simp [bytesOf]
theorem enc_b (r : Int) : bytesOf (Utf8.encode r) = encodeRune r := by
 unfold encodeRune;by_cases h : (0 ≤ r ∧ r < 55296) ∨ (57344 ≤ r ∧ r ≤ 1114111)
 ·have hv : Utf8.valid r = true := by simp [Utf8.valid]; omega
  obtain ⟨n, rfl⟩ : ∃ n : Nat, r = n := ⟨r.toNat, by omega⟩;unfold Utf8.encode;rw [if_pos hv];simp only [Int.toNat_natCast];by_cases h1 : n < 128
  ·rw [encodeRuneZ_one (by omega) (by omega), if_pos h1];simp [bytesOf]
  rw [if_neg h1];by_cases h2 : n < 2048
  ·rw [encodeRuneZ_two (by omega) (by omega), if_pos h2];have e1 : ((192 + (n : Int) / 64)).toNat = 192 + n / 64 := by omega
   have e2 : ((128 + (n : Int) % 64)).toNat = 128 + n % 64 := by omega
   simp [bytesOf, e1, e2]
  rw [if_neg h2];by_cases h3 : n < 65536
  ·rw [encodeRuneZ_three (by omega), if_pos h3];have e1 : ((224 + (n : Int) / 4096)).toNat = 224 + n / 4096 := by omega
   have e2 : ((128 + (n : Int) / 64 % 64)).toNat = 128 + n / 64 % 64 := by omega
   have e3 : ((128 + (n : Int) % 64)).toNat = 128 + n % 64 := by omega
   simp [bytesOf, e1, e2, e3]
  ·rw [encodeRuneZ_four (by omega) (by omega), if_neg h3];have e0 : ((240 + (n : Int) / 262144)).toNat = 240 + n / 262144 := by omega
   have e1 : ((128 + (n : Int) / 4096 % 64)).toNat = 128 + n / 4096 % 64 := by omega
   have e2 : ((128 + (n : Int) / 64 % 64)).toNat = 128 + n / 64 % 64 := by omega
   have e3 : ((128 + (n : Int) % 64)).toNat = 128 + n % 64 := by omega
   simp [bytesOf, e0, e1, e2, e3]
 ·have hv : Utf8.valid r = false := by
   cases e : Utf8.valid r with
   | false => rfl
   | true =>
     simp [Utf8.valid] at e;omega
  rw [encodeRuneZ_bad (by omega)];unfold Utf8.encode;simp only [hv, Bool.false_eq_true, if_false, Utf8.runeError];decide
theorem runes_foldl : ∀ (ns : List Int) (a : ByteArray), bytesOf (ns.foldl (fun r n => r ++ Utf8.encode n) a) = bytesOf a ++ ns.flatMap encodeRune
 | [], a => by simp
 | n :: ns, a => by
   rw [List.foldl_cons, runes_foldl ns, List.flatMap_cons, ← enc_b];simp [bytesOf]
theorem runes_b (ns : List Int) : bytesOf (runesBytes ns) = ns.flatMap encodeRune := by
 unfold runesBytes;rw [runes_foldl];rfl
theorem nums_b (ns : List Int) : bytesOf (strOfNums ns) = ns.map fun n => n.toNat.toUInt8 := by
 simp [strOfNums, bytesOf]
def runesF : Nat → List UInt8 → List Int
 | 0, _ => []
 | n + 1, l => match l with
   | [] => []
   | a :: t => ((decodeL (a :: t)).1 : Int) :: runesF n ((a :: t).drop (decodeL (a :: t)).2)
def runesL (l : List UInt8) : List Int := runesF l.length l
theorem runesF_fuel : ∀ (n m : Nat) (l : List UInt8), l.length ≤ n → l.length ≤ m → runesF n l = runesF m l
 | 0, 0, _, _, _ => rfl
 | 0, m + 1, l, h, _ => by
   have : l = [] := List.eq_nil_of_length_eq_zero (by omega);subst this; rfl
 | n + 1, 0, l, _, h => by
   have : l = [] := List.eq_nil_of_length_eq_zero (by omega);subst this; rfl
 | n + 1, m + 1, [], _, _ => rfl
 | n + 1, m + 1, a :: t, h, h' => by
   have hw := decodeL_width (a :: t);simp only [runesF];rw [runesF_fuel n m _ (by rw [List.length_drop]; omega) (by rw [List.length_drop]; omega)]
theorem runesL_nil : runesL [] = [] := rfl
theorem runesL_cons {l : List UInt8} (h : l ≠ []) : runesL l = ((decodeL l).1 : Int) :: runesL (l.drop (decodeL l).2) := by
 cases l with
 | nil => exact absurd rfl h
 | cons a t =>
   have hw := decodeL_width (a :: t);unfold runesL;simp only [List.length_cons, runesF];rw [runesF_fuel t.length _ _ (by rw [List.length_drop]; simp only [List.length_cons]; omega) (Nat.le_refl _)]
theorem rune_rng (l : List UInt8) : 0 ≤ ((decodeL l).1 : Int) ∧ ((decodeL l).1 : Int) ≤ 1114111 := by
 have := decodeL_rune l;omega
theorem runesL_rng : ∀ (n : Nat) (l : List UInt8), l.length ≤ n → ∀ r ∈ runesL l, 0 ≤ r ∧ r ≤ 1114111
 | n, [], _, r, hr => by cases hr
 | 0, a :: t, h, _, _ => by simp at h
 | n + 1, a :: t, h, r, hr => by
   have hw := decodeL_width (a :: t);rw [runesL_cons (by simp)] at hr;rcases List.mem_cons.1 hr with rfl | hr
   ·exact rune_rng _
   ·exact runesL_rng n _ (by rw [List.length_drop]; omega) r hr
theorem runesL_len : ∀ (n : Nat) (l : List UInt8), l.length ≤ n → (runesL l).length ≤ l.length ∧ l.length ≤ 4 * (runesL l).length
 | n, [], _ => by simp [runesL_nil]
 | 0, a :: t, h => by simp at h
 | n + 1, a :: t, h => by
   have hw := decodeL_width (a :: t)
   have hw4 : (decodeL (a :: t)).2 ≤ 4 := by
    rw [decodeL_N];rcases decodeN_shape (a :: t).length ((a :: t).getD 0 0).toNat ((a :: t).getD 1 0).toNat ((a :: t).getD 2 0).toNat ((a :: t).getD 3 0).toNat with ⟨c, e⟩ | ⟨c1, c2, c3, cv, e⟩ | ⟨c1, c2, c3, c4, cv, cs, e⟩ | ⟨c1, c2, c3, c4, c5, cv, cw, e⟩ | e
    all_goals (rw [e]; dsimp only; omega)
   have ih := runesL_len n ((a :: t).drop (decodeL (a :: t)).2) (by rw [List.length_drop]; omega);rw [runesL_cons (by simp)];rw [List.length_drop] at ih;simp only [List.length_cons] at ih ⊢;omega
def restS (s : ByteArray) (pos : Nat) : List UInt8 := (bytesOf s).drop pos
theorem restS_0 (s : ByteArray) : restS s 0 = bytesOf s := rfl
theorem restS_len (s : ByteArray) (pos : Nat) : (restS s pos).length = s.size - pos := by simp [restS, bytesOf_len]
theorem nextB_t {s : ByteArray} {pos : Nat} (h : restS s pos ≠ []) : nextB s pos = true := by
 have : 0 < (restS s pos).length := List.length_pos_iff.2 h;rw [restS_len] at this;simp [nextB]; omega
theorem nextB_f {s : ByteArray} {pos : Nat} (h : restS s pos = []) : nextB s pos = false := by
 have : (restS s pos).length = 0 := by rw [h]; rfl
 rw [restS_len] at this;simp [nextB]; omega
theorem runeS_d (s : ByteArray) (pos : Nat) : runeS s pos = ((decodeL (restS s pos)).1 : Int) := by
 unfold runeS restS bytesOf;rw [decodeL_drop]
theorem stepS_d (s : ByteArray) (pos : Nat) : stepS s pos = pos + (decodeL (restS s pos)).2 := by
 unfold stepS restS bytesOf;rw [decodeL_drop]
theorem restS_step (s : ByteArray) (pos : Nat) : restS s (stepS s pos) = (restS s pos).drop (decodeL (restS s pos)).2 := by
 rw [stepS_d];simp [restS, List.drop_drop]
theorem step_gt (s : ByteArray) (pos : Nat) : pos < stepS s pos := by
 rw [stepS_d];have := decodeL_width (restS s pos);omega
theorem rune_I32 (s : ByteArray) (pos : Nat) : I32B (runeS s pos) := by
 rw [runeS_d];have := rune_rng (restS s pos);exact ⟨by omega, by omega⟩
def scan (s : ByteArray) (pos : Nat) : List Int := runesL (restS s pos)
theorem scan_t {s : ByteArray} {pos : Nat} (h : restS s pos ≠ []) : scan s pos = runeS s pos :: scan s (stepS s pos) := by
 unfold scan;rw [runesL_cons h, restS_step, runeS_d]
theorem scan_f {s : ByteArray} {pos : Nat} (h : restS s pos = []) : scan s pos = [] := by
 unfold scan;rw [h]; rfl
theorem scan_rng (s : ByteArray) (pos : Nat) : ∀ r ∈ scan s pos, 0 ≤ r ∧ r ≤ 1114111 := runesL_rng _ _ (Nat.le_refl _)
theorem scan_len (s : ByteArray) (pos : Nat) : (scan s pos).length ≤ s.size - pos ∧ s.size - pos ≤ 4 * (scan s pos).length := by
 have := runesL_len _ (restS s pos) (Nat.le_refl _);rw [restS_len] at this;exact this
theorem dec_enc {r : Int} (h : (0 ≤ r ∧ r < 55296) ∨ (57344 ≤ r ∧ r ≤ 1114111)) (t : List UInt8) : ((decodeL (encodeRune r ++ t)).1 : Int) = r ∧ (decodeL (encodeRune r ++ t)).2 = (encodeRune r).length := by
 obtain ⟨n, rfl⟩ : ∃ n : Nat, r = n := ⟨r.toNat, by omega⟩;rw [decodeL_N];unfold encodeRune;by_cases h1 : n < 128
 ·rw [encodeRuneZ_one (by omega) (by omega)];have e : ((n : Int).toNat.toUInt8).toNat = n := by simp; omega
  simp only [List.map_cons, List.map_nil, List.cons_append, List.nil_append, List.getD_cons_zero, e];unfold decodeN;rw [if_pos h1];exact ⟨rfl, rfl⟩
 by_cases h2 : n < 2048
 ·rw [encodeRuneZ_two (by omega) (by omega)]
  have e0 : ((192 + (n : Int) / 64).toNat.toUInt8).toNat = 192 + n / 64 := by
   rw [show (192 + (n : Int) / 64).toNat = 192 + n / 64 by omega]; simp; omega
  have e1 : ((128 + (n : Int) % 64).toNat.toUInt8).toNat = 128 + n % 64 := by
   rw [show (128 + (n : Int) % 64).toNat = 128 + n % 64 by omega]; simp; omega
  simp only [List.map_cons, List.map_nil, List.cons_append, List.nil_append, List.getD_cons_zero, List.getD_cons_succ, e0, e1, List.length_cons];unfold decodeN;rw [if_neg (by omega), if_pos (by omega), if_pos (by omega)];refine ⟨?_, rfl⟩;dsimp only; omega
 by_cases h3 : n < 65536
 ·rw [encodeRuneZ_three (by omega)]
  have e0 : ((224 + (n : Int) / 4096).toNat.toUInt8).toNat = 224 + n / 4096 := by
   rw [show (224 + (n : Int) / 4096).toNat = 224 + n / 4096 by omega]; simp; omega
  have e1 : ((128 + (n : Int) / 64 % 64).toNat.toUInt8).toNat = 128 + n / 64 % 64 := by
   rw [show (128 + (n : Int) / 64 % 64).toNat = 128 + n / 64 % 64 by omega]; simp; omega
  have e2 : ((128 + (n : Int) % 64).toNat.toUInt8).toNat = 128 + n % 64 := by
   rw [show (128 + (n : Int) % 64).toNat = 128 + n % 64 by omega]; simp; omega
  simp only [List.map_cons, List.map_nil, List.cons_append, List.nil_append, List.getD_cons_zero, List.getD_cons_succ, e0, e1, e2, List.length_cons];unfold decodeN;rw [if_neg (by omega), if_neg (by omega), if_pos (by omega), if_pos (by omega)];refine ⟨?_, rfl⟩;dsimp only; omega
 ·rw [encodeRuneZ_four (by omega) (by omega)]
  have e0 : ((240 + (n : Int) / 262144).toNat.toUInt8).toNat = 240 + n / 262144 := by
   rw [show (240 + (n : Int) / 262144).toNat = 240 + n / 262144 by omega]; simp; omega
  have e1 : ((128 + (n : Int) / 4096 % 64).toNat.toUInt8).toNat = 128 + n / 4096 % 64 := by
   rw [show (128 + (n : Int) / 4096 % 64).toNat = 128 + n / 4096 % 64 by omega]; simp; omega
  have e2 : ((128 + (n : Int) / 64 % 64).toNat.toUInt8).toNat = 128 + n / 64 % 64 := by
   rw [show (128 + (n : Int) / 64 % 64).toNat = 128 + n / 64 % 64 by omega]; simp; omega
  have e3 : ((128 + (n : Int) % 64).toNat.toUInt8).toNat = 128 + n % 64 := by
   rw [show (128 + (n : Int) % 64).toNat = 128 + n % 64 by omega]; simp; omega
  simp only [List.map_cons, List.map_nil, List.cons_append, List.nil_append, List.getD_cons_zero, List.getD_cons_succ, e0, e1, e2, e3, List.length_cons];unfold decodeN;rw [if_neg (by omega), if_neg (by omega), if_neg (by omega), if_pos (by omega), if_pos (by omega)];refine ⟨?_, rfl⟩;dsimp only; omega
def ValidR (r : Int) : Prop := (0 ≤ r ∧ r < 55296) ∨ (57344 ≤ r ∧ r ≤ 1114111)
theorem dec_valid (l : List UInt8) : ValidR ((decodeL l).1 : Int) := by
 unfold ValidR;rw [decodeL_N];have k0 := (l.getD 0 0).toNat_lt;have k1 := (l.getD 1 0).toNat_lt;rcases decodeN_shape l.length (l.getD 0 0).toNat (l.getD 1 0).toNat (l.getD 2 0).toNat (l.getD 3 0).toNat with ⟨c, e⟩ | ⟨c1, c2, c3, cv, e⟩ | ⟨c1, c2, c3, c4, cv, cs, e⟩ | ⟨c1, c2, c3, c4, c5, cv, cw, e⟩ | e
 all_goals (rw [e]; dsimp only; omega)
end Go.Ab
end
section
namespace Go.Ab
open Go.ChangeShapes Go.WideShapes Go.ChangeAt Go.RowKit
variable {H : Type} {enc : TypeId × Value → H}
theorem law_lifted_shaped {C : Checked} {os : Os} {f : FuncId} {fn : Func} {s : ChangeSpec} {conds : List PathCond} {tb : TypeId} {l : List TypeId} {laid : List (String × DataW Unit)}
  (own : ownKnob C.prog.godebug = none) (started : os.Started) (noInit : C.prog.inits.idxOf? f = none) (hfn : C.prog.funcs[f]? = some fn)
  (witness : ∃ (w : World) (tape : Tape) (i : Input), w.os = os ∧ (w.forCall tape i).Shaped C.prog ∧ i.vars = [] ∧ Input.okWide C.prog (w.forCall tape i) .any w.heap.size f i ∧
   ((s.pre enc C.prog fn conds false (w.forCall tape i).memory i.args ∧ laidMetH C.prog laid (w.forCall tape i).memory) ∧ sizedMet enc C.prog fn (OpenSpec.ofChange s) false (w.forCall tape i).memory i.args) ∧ ({} : Assume).holds C.prog (lone (Frame.enter C.prog f i.args .normal) [] (w.forCall tape i)))
  (hvars : s.vars = []) (hres : fn.resultTypes = #[tb]) (htb : C.prog.underlying tb = some .bool)
  (hspec : ∀ ds : List (DataW H), ds.length = fn.params.toList.length → s.fn H ds = { results := [.lit (.bool true)], args := ds })
  (K : Kids C.prog (· < C.prog.types.size)) (hz : ((List.range C.prog.types.size).all fun t => match C.prog.underlying t with | some (.slice e) => decide (0 < C.prog.cellsOf e) | _ => true) = true)
  (hl : flatB C.prog l = true) (hT : topB C.prog l fn.params.toList = true)
  (call : ∀ avl, ShAll C.prog fn.params.toList avl → ∃ o : Prop, o ∧ CallOk C.prog f avl [] { av := .lit (.bool true), obl := o })
  (hF : ∀ w : World, laidMetH C.prog laid w → w.ShapedOpen C.prog → ∀ w' : World, (∀ b, b < w.heap.size → w'.heap[b]? = w.heap[b]?) → fctF w') :
  ReturnsInHanded {} C os f .any (fun w args => (s.pre enc C.prog fn conds false w args ∧ laidMetH C.prog laid w) ∧ sizedMet enc C.prog fn (OpenSpec.ofChange s) false w args) (s.post enc C.prog fn false true false false) := by
 refine returnsInHanded_of_calls own started noInit witness ?_;intro w tape i _ hsh _ hok hpre hholds;obtain ⟨_, _, _, fn', hfn', _, _, _, _, hval⟩ := hok;have e : fn' = fn := Option.some.inj (hfn'.symm.trans hfn);subst e;obtain ⟨⟨⟨ds, gs, before, hw, hc⟩, hx⟩, hz'⟩ := hpre;have hw' := DataW.Whole.of_heap (w' := w.forCall tape i) (by rfl) hw;have hL : laidMetH C.prog laid (w.forCall tape i) := laidMetH.of_heap (w := (w.forCall tape i).memory) (by rfl) hx;refine (law_contract hvars hres htb hspec K hz hl hT call (w.forCall tape i) (hF _ hL hsh) w.heap.size i.args ds gs before hval hw').mono fun e W' ⟨v, he, hp⟩ => ?_;subst he;exact ChangeSpec.post_blind hp
end Go.Ab
end
