import Derived.Test.YtpamnignoocogaaGreatDoorM04
import Derived.Test.YtpamnignoocogaaGreatDoorM06
import Derived.Test.YtpamnignoocogaaGreatDoorM19
namespace Go.Proofs
open Go.Ab
theorem nth_n {α : Type} [Inhabited α] {l : List α} {k : Nat} (h : k < l.length) : nthI l (k : Int) = l[k] := by simp [nthI, List.getD_eq_getElem?_getD, h]
theorem cut_to {α : Type} (l : List α) (k : Nat) : cutL l 0 (k : Int) = l.take k := by simp [cutL]
theorem cut_from {α : Type} (l : List α) (k : Nat) : cutL l (k : Int) (lenL l) = l.drop k := by
 unfold cutL lenL;rw [List.take_of_length_le (by simp)];simp
theorem lenL_n {α : Type} (l : List α) : lenL l = (l.length : Int) := rfl
theorem dropW_nil {α : Type} (p : α → Bool) (l : List α) (h : ∀ x ∈ l, p x = true) : l.dropWhile p = [] := by
 induction l with
 | nil => rfl
 | cons a l ih => rw [List.dropWhile_cons, if_pos (h a (.head _))]; exact ih fun x hx => h x (.tail _ hx)
theorem of_dropW {α : Type} (p : α → Bool) (l : List α) (h : ∀ x ∈ l.dropWhile p, p x = true) : ∀ x ∈ l, p x = true := by
 induction l with
 | nil => intro x hx; cases hx
 | cons a l ih =>
   rw [List.dropWhile_cons] at h;split at h
   ·rename_i ha;intro x hx;rcases List.mem_cons.1 hx with rfl | hx
    ·exact ha
    ·exact ih h x hx
   ·exact h
theorem trim_nil (l cs : List UInt8) : Lib.trimS l cs = [] ↔ ∀ b ∈ l, cs.contains b = true := by
 unfold Lib.trimS Lib.trimLeftS Lib.trimRightS;constructor
 ·intro h;have h1 := of_dropW (cs.contains ·) (l.reverse.dropWhile (cs.contains ·)).reverse (by rw [h]; intro x hx; cases hx);have h2 := of_dropW (cs.contains ·) l.reverse (fun x hx => h1 x (List.mem_reverse.2 hx));exact fun b hb => h2 b (List.mem_reverse.2 hb)
 ·intro h;have : l.reverse.dropWhile (cs.contains ·) = [] := dropW_nil _ _ fun x hx => h x (List.mem_reverse.1 hx);rw [this]; rfl
def isDg (b : UInt8) : Bool := decide (48 ≤ b.toNat) && decide (b.toNat ≤ 57)
def decH : List UInt8 := [48, 49, 50, 51, 52, 53, 54, 55, 56, 57]
theorem dg_has (b : UInt8) : decH.contains b = isDg b := u8_cases (p := fun b => decH.contains b = isDg b) (by decide +kernel) b
theorem dg_val (b : UInt8) : isDg b = true → cvtI .i64 (subI .u8 (b.toNat : Int) 48) = ((b.toNat - 48 : Nat) : Int) := u8_cases (p := fun b => isDg b = true → cvtI .i64 (subI .u8 (b.toNat : Int) 48) = ((b.toNat - 48 : Nat) : Int)) (by decide +kernel) b
theorem dg_out (b : UInt8) : pickB (ltI (b.toNat : Int) 48) true (ltI 57 (b.toNat : Int)) = !isDg b := u8_cases (p := fun b => pickB (ltI (b.toNat : Int) 48) true (ltI 57 (b.toNat : Int)) = !isDg b) (by decide +kernel) b
theorem trim_d (s : ByteArray) : neS (trimB s ⟨#[48, 49, 50, 51, 52, 53, 54, 55, 56, 57]⟩) ⟨#[]⟩ = !(bytesOf s).all isDg := by
 rw [neS_b, eqS_b];have e : bytesOf (trimB s ⟨#[48, 49, 50, 51, 52, 53, 54, 55, 56, 57]⟩) = Lib.trimS (bytesOf s) decH := by unfold trimB; rw [lit_b]; rfl
 rw [e]
 have : decide (Lib.trimS (bytesOf s) decH = bytesOf ⟨#[]⟩) = (bytesOf s).all isDg := by
  rw [show bytesOf (⟨#[]⟩ : ByteArray) = [] from rfl];cases h : (bytesOf s).all isDg with
  | true => exact decide_eq_true ((trim_nil _ _).2 fun b hb => by rw [dg_has]; exact List.all_eq_true.1 h b hb)
  | false =>
    refine decide_eq_false fun q => ?_;have : (bytesOf s).all isDg = true := List.all_eq_true.2 fun b hb => by rw [← dg_has]; exact (trim_nil _ _).1 q b hb
    rw [h] at this; cases this
 rw [this]
def dgV (acc : Nat) (l : List UInt8) : Nat := l.foldl (fun n b => n * 10 + (b.toNat - 48)) acc
theorem decFrom_d : ∀ (l : List UInt8) (acc : Nat), l.all isDg = true → Lib.decFrom acc l = some (dgV acc l)
 | [], _, _ => rfl
 | b :: l, acc, h => by
   simp only [List.all_cons, Bool.and_eq_true] at h;have hb : 48 ≤ b.toNat ∧ b.toNat ≤ 57 := by simpa [isDg] using h.1
   unfold Lib.decFrom Lib.digitVal;rw [if_pos hb];exact decFrom_d l _ h.2
theorem atoi_d {l : List UInt8} (h : l.all isDg = true) (hne : l ≠ []) : Lib.atoi l = some (dgV 0 l : Int) := by
 cases l with
 | nil => exact absurd rfl hne
 | cons b r =>
   have hb : 48 ≤ b.toNat ∧ b.toNat ≤ 57 := by
    simp only [List.all_cons, Bool.and_eq_true] at h;simpa [isDg] using h.1
   have h45 : (b == 45) = false := beq_eq_false_iff_ne.2 fun e => by subst e; exact absurd hb.1 (by decide)
   have h43 : (b == 43) = false := beq_eq_false_iff_ne.2 fun e => by subst e; exact absurd hb.1 (by decide)
   unfold Lib.atoi;simp only [h45, h43, Bool.false_eq_true, if_false];unfold Lib.decNat;rw [if_neg (by simp), decFrom_d _ _ h];rfl
theorem dgV_lt : ∀ (l : List UInt8) (acc : Nat), l.all isDg = true → dgV acc l < (acc + 1) * 10 ^ l.length
 | [], acc, _ => by simp [dgV]
 | b :: l, acc, h => by
   simp only [List.all_cons, Bool.and_eq_true] at h;have hb : 48 ≤ b.toNat ∧ b.toNat ≤ 57 := by simpa [isDg] using h.1
   have ih := dgV_lt l (acc * 10 + (b.toNat - 48)) h.2;have e : dgV acc (b :: l) = dgV (acc * 10 + (b.toNat - 48)) l := rfl;rw [e, List.length_cons, Nat.pow_succ];refine Nat.lt_of_lt_of_le ih ?_;rw [Nat.mul_comm (10 ^ l.length) 10, ← Nat.mul_assoc];exact Nat.mul_le_mul_right _ (by omega)
theorem dgV_snoc (l : List UInt8) (b : UInt8) : dgV 0 (l ++ [b]) = dgV 0 l * 10 + (b.toNat - 48) := by simp [dgV]
theorem dgV_10 {l : List UInt8} (h : l.all isDg = true) (hl : l.length ≤ 10) : dgV 0 l < 10000000000 := by
 have := dgV_lt l 0 h;have h2 : 10 ^ l.length ≤ 10 ^ 10 := Nat.pow_le_pow_right (by omega) hl;omega
theorem num_loop27 (s : ByteArray) (hs : (bytesOf s).length ≤ 10) : loopF (gu.loop1 s) (0, 0) = some (if (bytesOf s).all isDg = true then .go (dgV 0 (bytesOf s) : Int) else .out (0, false)) := by
 obtain ⟨t, ht, hq⟩ := loop_ends (body := gu.loop1 s) (fun st => ∃ k : Nat, k ≤ (bytesOf s).length ∧ ((bytesOf s).take k).all isDg = true ∧ st = ((k : Int), (dgV 0 ((bytesOf s).take k) : Int))) (fun t => t = (if (bytesOf s).all isDg = true then .go (dgV 0 (bytesOf s) : Int) else .out (0, false))) (fun st => (bytesOf s).length - st.1.toNat) (fun st hst => by
  obtain ⟨k, hk, hall, rfl⟩ := hst;unfold gu.loop1;by_cases hlt : k < (bytesOf s).length
  ·have e0 : ltI (k : Int) (lenS s) = true := ltI_t (by rw [lenS_b]; omega);have hin : InB (k : Int) (lenS s) := ⟨by omega, by rw [lenS_b]; omega⟩;simp only [e0, cond_true, idx_b s k hlt];rw [Lf hin, Lf (under_of hin), dg_out];cases hd : isDg (bytesOf s)[k] with
   | false =>
     have hno : (bytesOf s).all isDg = false := by
      cases q : (bytesOf s).all isDg with
      | false => rfl
      | true => rw [List.all_eq_true.1 q _ (List.getElem_mem hlt)] at hd; cases hd
     simp only [Bool.not_false, cond_true, hno];rfl
   | true =>
     simp only [Bool.not_true, cond_false];have hv := dgV_10 hall (by rw [List.length_take]; omega);have hb : (bytesOf s)[k].toNat - 48 ≤ 9 := by simp only [isDg, Bool.and_eq_true, decide_eq_true_eq] at hd; omega
     have hadd : addI .i64 (k : Int) 1 = ((k + 1 : Nat) : Int) := by rw [addI_n (by omega) (by omega)]; omega
     rw [Lf hin, dg_val _ hd, mulI_n (by omega) (by omega), hadd, addI_n (by omega) (by omega)];refine ⟨⟨k + 1, hlt, ?_, ?_⟩, by simp only [Int.toNat_natCast]; omega⟩
     ·rw [List.take_succ_eq_append_getElem hlt, List.all_append, hall]; simp [hd]
     ·rw [List.take_succ_eq_append_getElem hlt, dgV_snoc];congr 1;omega
  ·have e0 : ltI (k : Int) (lenS s) = false := ltI_f (by rw [lenS_b]; omega);simp only [e0, cond_false];have : k = (bytesOf s).length := by omega
   subst this;rw [List.take_length] at hall ⊢;show Fl.go _ = _;rw [if_pos hall]) (0, 0) ⟨0, Nat.zero_le _, rfl, rfl⟩
 rw [ht, hq]
theorem number_eq (s : ByteArray) : gL s 4294967295 = gu s := by
 have hsz : s.size = (bytesOf s).length := (bytesOf_len s).symm;unfold gL gu;rw [trim_d, eqS_b, show bytesOf (⟨#[]⟩ : ByteArray) = [] from rfl];by_cases h0 : bytesOf s = []
 ·have e1 : ltI (lenS s) 1 = true := ltI_t (by rw [lenS_b, h0]; simp);have e2 : ltI 1 (lenS s) = false := ltI_f (by rw [lenS_b, h0]; simp);rw [e1, e2, h0, Lf (show Under false true _ from fun q => by cases q)];simp [pickB]
 have hpos := List.length_pos_iff.2 h0;have e1 : ltI (lenS s) 1 = false := ltI_f (by rw [lenS_b]; omega);rw [e1, decide_eq_false h0];by_cases h10 : 10 < (bytesOf s).length
 ·have e3 : ltI 10 (lenS s) = true := ltI_t (by rw [lenS_b]; omega);rw [e3];simp only [pickB, cond_true, cond_false];rw [Lf (show Under _ true (Under _ false _) from fun _ q => by cases q)]
 have e3 : ltI 10 (lenS s) = false := ltI_f (by rw [lenS_b]; omega);have hin : InB 0 (lenS s) := ⟨by omega, by rw [lenS_b]; omega⟩;rw [e3, Lf (show Under _ true (Under _ false _) from fun _ _ => hin)];simp only [pickB_or, pickB_and]
 rw [Lf (show s.size ≤ 9223372036854775807 by omega), Lf (show AsciiB ⟨#[48, 49, 50, 51, 52, 53, 54, 55, 56, 57]⟩ from ⟨by decide, by decide⟩),
  Lf (show Under _ true (Under _ false (InB 0 (lenS s))) from fun _ _ => hin)]
 cases hz : (ltI 1 (lenS s) && eqI (idxS s 0) 48) with
 | true => simp
 | false =>
   rw [num_loop27 s (by omega)];simp only [Bool.or_false, Lh];cases hall : (bytesOf s).all isDg with
   | false => simp
   | true =>
     have ha : Lib.atoi s.data.toList = some (dgV 0 (bytesOf s) : Int) := atoi_d hall h0
     have hlast : leqI (dgV 0 (bytesOf s) : Int) 4294967295 = ltI (dgV 0 (bytesOf s) : Int) 4294967296 := by
      rw [leI_d, ltI_d];exact decide_eq_decide.2 (by omega)
     simp only [Bool.not_true, cond_false, ha, Option.isSome_some, Option.getD_some, if_true, flC_go, hlast];rw [Lf (show s.size ≤ 18 by omega), need_true]
theorem number_some (s : ByteArray) : ∃ n ok, gu s = some (n, ok) ∧ (ok = true → 0 ≤ n ∧ n < 4294967296) := by
 rw [← number_eq];have hsz : s.size = (bytesOf s).length := (bytesOf_len s).symm;unfold gL;rw [trim_d, eqS_b, show bytesOf (⟨#[]⟩ : ByteArray) = [] from rfl];by_cases h0 : bytesOf s = []
 ·rw [h0]; exact ⟨0, false, by simp [pickB], fun q => by cases q⟩
 have hpos := List.length_pos_iff.2 h0;rw [decide_eq_false h0];by_cases h10 : 10 < (bytesOf s).length
 ·rw [ltI_t (show (10 : Int) < lenS s by rw [lenS_b]; omega)];exact ⟨0, false, by simp [pickB], fun q => by cases q⟩
 rw [ltI_f (show ¬ (10 : Int) < lenS s by rw [lenS_b]; omega)];have hin : InB 0 (lenS s) := ⟨by omega, by rw [lenS_b]; omega⟩;simp only [pickB_or, pickB_and]
 rw [Lf (show s.size ≤ 9223372036854775807 by omega), Lf (show AsciiB ⟨#[48, 49, 50, 51, 52, 53, 54, 55, 56, 57]⟩ from ⟨by decide, by decide⟩),
  Lf (show Under _ true (Under _ false (InB 0 (lenS s))) from fun _ _ => hin)]
 cases hz : (!(bytesOf s).all isDg || (ltI 1 (lenS s) && eqI (idxS s 0) 48)) with
 | true => exact ⟨0, false, rfl, fun q => by cases q⟩
 | false =>
   have hall : (bytesOf s).all isDg = true := by
    cases q : (bytesOf s).all isDg with
    | true => rfl
    | false => rw [q] at hz; simp at hz
   have ha : Lib.atoi s.data.toList = some (dgV 0 (bytesOf s) : Int) := atoi_d hall h0;simp only [cond_false, ha, Option.isSome_some, Option.getD_some];rw [Lf (show s.size ≤ 18 by omega), need_true];refine ⟨_, _, rfl, fun q => ⟨by omega, ?_⟩⟩;have : (dgV 0 (bytesOf s) : Int) ≤ 4294967295 := by simpa [leqI] using q
   omega
noncomputable def numV (s : ByteArray) : Option Int := (gu s).bind fun r => bif r.2 then some r.1 else none
noncomputable def numsV : List ByteArray → Option (List Int)
 | [] => some []
 | s :: r => (numV s).bind fun n => (numsV r).map (n :: ·)
theorem numsV_app : ∀ (p q : List ByteArray), numsV (p ++ q) = (numsV p).bind fun a => (numsV q).map (a ++ ·)
 | [], q => by simp [numsV]
 | s :: p, q => by
   simp only [List.cons_append, numsV, numsV_app p q];cases numV s with
   | none => rfl
   | some n => cases numsV p with
     | none => rfl
     | some a => cases numsV q <;> rfl
theorem numsV_len : ∀ {l : List ByteArray} {ns : List Int}, numsV l = some ns → ns.length = l.length
 | [], _, h => by cases h; rfl
 | s :: l, ns, h => by
   obtain ⟨n, _, h⟩ := Option.bind_eq_some_iff.1 h;obtain ⟨r, h2, rfl⟩ := Option.map_eq_some_iff.1 h;simp [numsV_len h2]
theorem numV_rng {s : ByteArray} {n : Int} (h : numV s = some n) : 0 ≤ n ∧ n < 4294967296 := by
 obtain ⟨m, ok, h1, h2⟩ := number_some s;unfold numV at h;rw [h1] at h;cases ok with
 | false => cases h
 | true => cases h; exact h2 rfl
theorem numsV_rng : ∀ {l : List ByteArray} {ns : List Int}, numsV l = some ns → ∀ n ∈ ns, 0 ≤ n ∧ n < 4294967296
 | [], _, h, n, hn => by cases h; cases hn
 | s :: l, ns, h, n, hn => by
   obtain ⟨m, h1, h⟩ := Option.bind_eq_some_iff.1 h;obtain ⟨r, h2, rfl⟩ := Option.map_eq_some_iff.1 h;rcases List.mem_cons.1 hn with rfl | hn
   ·exact numV_rng h1
   ·exact numsV_rng h2 n hn
noncomputable def numsR (l : List ByteArray) : List Int × Bool := match numsV l with
 | some ns => (ns, true)
 | none => ([], false)
theorem nums_d (l : List ByteArray) (hl : l.length ≤ 1000) : gz l = some (numsR l) := by
 obtain ⟨t, ht, hq⟩ := loop_ends (body := gz.loop1 l) (fun st => ∃ k : Nat, k ≤ l.length ∧ st.1 = (k : Int) ∧ numsV (l.take k) = some st.2) (fun t => flC t (fun (v1 : List Int) => some (v1, true)) = some (numsR l)) (fun st => l.length - st.1.toNat) (fun st hst => by
  obtain ⟨k, hk, h1, h2⟩ := hst;obtain ⟨i, ns⟩ := st;simp only at h1 h2;subst h1;have hlen := numsV_len h2;rw [List.length_take] at hlen;unfold gz.loop1;by_cases hlt : k < l.length
  ·have e0 : ltI (k : Int) (lenL l) = true := ltI_t (by rw [lenL_n]; omega);simp only [e0, cond_true];rw [Lf (show InB (k : Int) (lenL l) from ⟨by omega, by rw [lenL_n]; omega⟩), nth_n hlt];obtain ⟨m, ok, e1, _⟩ := number_some l[k];have hV : numV l[k] = bif ok then some m else none := by unfold numV; rw [e1]; rfl
   have hall : numsV l = (numV l[k]).bind fun n => (numsV (l.drop (k + 1))).map fun r => ns ++ n :: r := by
    have e : l = l.take k ++ l[k] :: l.drop (k + 1) := by rw [List.getElem_cons_drop, List.take_append_drop]
    have := numsV_app (l.take k) (l[k] :: l.drop (k + 1));rw [← e, h2, Option.bind_some] at this;rw [this];simp only [numsV];cases numV l[k] with
    | none => rfl
    | some n => cases numsV (l.drop (k + 1)) <;> rfl
   rw [e1];simp only [Lh];cases ok with
   | false =>
     simp only [notB, Bool.not_false, cond_true];show flC (Fl.out _) _ = _;rw [flC_out];unfold numsR;rw [hall, hV];rfl
   | true =>
     simp only [notB, Bool.not_true, cond_false];rw [Lf (show AppB (lenL ns) 1 8 by constructor <;> simp only [lenL] <;> omega)];have hadd : addI .i64 (k : Int) 1 = ((k + 1 : Nat) : Int) := by rw [addI_n (by omega) (by omega)]; omega
     refine ⟨⟨k + 1, hlt, hadd, ?_⟩, by simp only [hadd, Int.toNat_natCast]; omega⟩;rw [List.take_succ_eq_append_getElem hlt, numsV_app, h2];simp only [numsV, hV, Option.bind_some, Option.map_some, cond_true];rfl
  ·have e0 : ltI (k : Int) (lenL l) = false := ltI_f (by rw [lenL_n]; omega);simp only [e0, cond_false];have : k = l.length := by omega
   subst this;rw [List.take_length] at h2;show flC (Fl.go ns) _ = _;rw [flC_go];unfold numsR;rw [h2]) (0, []) ⟨0, Nat.zero_le _, rfl, rfl⟩
 unfold gz;rw [ht, Lh];exact hq
theorem numbers_eq (l : List ByteArray) : gh l = gz l := by
 have e : gh.loop1 l = gz.loop1 l := by
  funext st;unfold gh.loop1 gz.loop1;simp only [number_eq]
 unfold gh gz;rw [e]
theorem cvt32 {x : Int} (h : 0 ≤ x ∧ x < 4294967296) : cvtI .u32 x = x := by
 unfold cvtI;rw [IntKind.wrap_u32', Int.emod_eq_of_lt h.1 h.2]
theorem conv_loop {X : Type} (ns : List Int) (hr : ∀ n ∈ ns, 0 ≤ n ∧ n < 4294967296) (hl : ns.length ≤ 1000) (body : Int × List Int → Option (Fl (Int × List Int) (Fl (List Int) X)))
  (hb : ∀ st, body st = bif ltI st.1 (lenL ns) then need (InB st.1 (lenL ns)) (need (AppB (lenL st.2) 1 4) (some (.go (addI .i64 st.1 1, appL st.2 [cvtI .u32 (nthI ns st.1)])))) else some (.out (.go st.2))) : loopF body (0, []) = some (.go ns) := by
 obtain ⟨t, ht, hq⟩ := loop_ends (body := body) (fun st => ∃ k : Nat, k ≤ ns.length ∧ st = ((k : Int), ns.take k)) (fun t => t = .go ns) (fun st => ns.length - st.1.toNat) (fun st hst => by
  obtain ⟨k, hk, rfl⟩ := hst;rw [hb];by_cases hlt : k < ns.length
  ·have e0 : ltI (k : Int) (lenL ns) = true := ltI_t (by rw [lenL_n]; omega);simp only [e0, cond_true]
   rw [Lf (show InB (k : Int) (lenL ns) from ⟨by omega, by rw [lenL_n]; omega⟩), nth_n hlt, cvt32 (hr _ (List.getElem_mem hlt)),
    Lf (show AppB (lenL (ns.take k)) 1 4 by constructor <;> simp only [lenL, List.length_take] <;> omega)]
   have hadd : addI .i64 (k : Int) 1 = ((k + 1 : Nat) : Int) := by rw [addI_n (by omega) (by omega)]; omega
   refine ⟨⟨k + 1, hlt, ?_⟩, by simp only [hadd, Int.toNat_natCast]; omega⟩;rw [hadd, List.take_succ_eq_append_getElem hlt];rfl
  ·have e0 : ltI (k : Int) (lenL ns) = false := ltI_f (by rw [lenL_n]; omega);simp only [e0, cond_false];have : k = ns.length := by omega
   subst this;rw [List.take_length];exact rfl) (0, []) ⟨0, Nat.zero_le _, by simp⟩
 rw [ht, hq]
theorem numsR_rng (l : List ByteArray) : ∀ n ∈ (numsR l).1, 0 ≤ n ∧ n < 4294967296 := fun n hn => by
 unfold numsR at hn;cases h : numsV l with
 | none => rw [h] at hn; cases hn
 | some ns => rw [h] at hn; exact numsV_rng h n hn
theorem numsR_len (l : List ByteArray) : (numsR l).1.length ≤ l.length := by
 unfold numsR;cases h : numsV l with
 | none => simp
 | some ns => exact Nat.le_of_eq (numsV_len h)
theorem sources_d (l : List ByteArray) (hl : l.length ≤ 1000) : gy l = some ((numsR l).1, (numsR l).2 && ltI 0 (lenL (numsR l).1)) := by
 unfold gy;rw [numbers_eq, nums_d l hl, Lh, conv_loop (numsR l).1 (numsR_rng l) (Nat.le_trans (numsR_len l) hl) (gy.loop1 (numsR l)) fun st => rfl, Lh, flC_go, pickB_and]
theorem publish_d (v : Bool) (l : List ByteArray) (hl : l.length ≤ 1000) : gB v l = some (match numsV l with
  | some ns => if h : 3 ≤ ns.length then (.mk 3 ⟨#[]⟩ ⟨#[]⟩ ns[0] 0 ns[1] 0 false v (ns.drop 2), true) else ((Ta.mk 0 ⟨#[]⟩ ⟨#[]⟩ 0 0 0 0 false false []), false)
  | none => ((Ta.mk 0 ⟨#[]⟩ ⟨#[]⟩ 0 0 0 0 false false []), false)) := by
 unfold gB;rw [nums_d l hl, Lh];unfold numsR;cases h : numsV l with
 | none => rfl
 | some ns =>
   have hlen := numsV_len h;simp only [notB, Bool.not_true, pickB_or, Bool.false_or];by_cases h3 : 3 ≤ ns.length
   ·rw [ltI_f (show ¬ lenL ns < 3 by rw [lenL_n]; omega), cond_false, dif_pos h3, Lf (show InB 0 (lenL ns) from ⟨by omega, by rw [lenL_n]; omega⟩), Lf (show InB 1 (lenL ns) from ⟨by omega, by rw [lenL_n]; omega⟩), Lf (show CutB 2 (lenL ns) (lenL ns) from ⟨by omega, by rw [lenL_n]; omega, Int.le_refl _⟩)];have e2 : cutL ns 2 (lenL ns) = ns.drop 2 := cut_from ns 2;rw [conv_loop (ns.drop 2) (fun n hn => numsV_rng h n (List.mem_of_mem_drop hn)) (by rw [List.length_drop]; omega) (gB.loop1 (ns, true)) (fun st => by unfold gB.loop1; rw [e2]), Lh, flC_go];have n0 : nthI ns 0 = ns[0] := nth_n (k := 0) (by omega);have n1 : nthI ns 1 = ns[1] := nth_n (k := 1) (by omega);rw [n0, n1]
   ·rw [ltI_t (show lenL ns < 3 by rw [lenL_n]; omega), cond_true, dif_neg h3]
structure CmdOk (c : Cmd) : Prop where
 room : c.fd.size ≤ 400
 name : c.ff.size ≤ 400
 len : c.fa.length ≤ 1000
 rng : ∀ x ∈ c.fa, 0 ≤ x ∧ x < 4294967296
theorem cmdOk_of {k p o t l : Int} {a b : Bool} : CmdOk (.mk k ⟨#[]⟩ ⟨#[]⟩ p o t l a b []) := ⟨Nat.zero_le _, Nat.zero_le _, Nat.zero_le _, fun x hx => by cases hx⟩
def SameCmd (v : ByteArray) (l : List ByteArray) : Prop := ∃ c ok, gi v l = some (c, ok) ∧ gA v l = some (c, ok) ∧ CmdOk c
theorem vq_audio : eqS ⟨#[97, 117, 100, 105, 111]⟩ ⟨#[97, 117, 100, 105, 111]⟩ = true ∧ eqS ⟨#[97, 117, 100, 105, 111]⟩ ⟨#[99, 114, 101, 100, 105, 116]⟩ = false ∧ eqS ⟨#[97, 117, 100, 105, 111]⟩ ⟨#[100, 97, 116, 97]⟩ = false ∧ eqS ⟨#[97, 117, 100, 105, 111]⟩ ⟨#[106, 111, 105, 110]⟩ = false ∧ eqS ⟨#[97, 117, 100, 105, 111]⟩ ⟨#[108, 101, 97, 118, 101]⟩ = false ∧ eqS ⟨#[97, 117, 100, 105, 111]⟩ ⟨#[109, 117, 116, 101]⟩ = false ∧ eqS ⟨#[97, 117, 100, 105, 111]⟩ ⟨#[112, 97, 117, 115, 101]⟩ = false ∧ eqS ⟨#[97, 117, 100, 105, 111]⟩ ⟨#[115, 117, 98, 115, 99, 114, 105, 98, 101]⟩ = false ∧ eqS ⟨#[97, 117, 100, 105, 111]⟩ ⟨#[116, 105, 99, 107]⟩ = false ∧ eqS ⟨#[97, 117, 100, 105, 111]⟩ ⟨#[117, 110, 112, 117, 98, 108, 105, 115, 104]⟩ = false ∧ eqS ⟨#[97, 117, 100, 105, 111]⟩ ⟨#[117, 110, 115, 117, 98, 115, 99, 114, 105, 98, 101]⟩ = false ∧ eqS ⟨#[97, 117, 100, 105, 111]⟩ ⟨#[118, 105, 100, 101, 111]⟩ = false := by
 simp only [eqS_b];decide +kernel
theorem vq_credit : eqS ⟨#[99, 114, 101, 100, 105, 116]⟩ ⟨#[97, 117, 100, 105, 111]⟩ = false ∧ eqS ⟨#[99, 114, 101, 100, 105, 116]⟩ ⟨#[99, 114, 101, 100, 105, 116]⟩ = true ∧ eqS ⟨#[99, 114, 101, 100, 105, 116]⟩ ⟨#[100, 97, 116, 97]⟩ = false ∧ eqS ⟨#[99, 114, 101, 100, 105, 116]⟩ ⟨#[106, 111, 105, 110]⟩ = false ∧ eqS ⟨#[99, 114, 101, 100, 105, 116]⟩ ⟨#[108, 101, 97, 118, 101]⟩ = false ∧ eqS ⟨#[99, 114, 101, 100, 105, 116]⟩ ⟨#[109, 117, 116, 101]⟩ = false ∧ eqS ⟨#[99, 114, 101, 100, 105, 116]⟩ ⟨#[112, 97, 117, 115, 101]⟩ = false ∧ eqS ⟨#[99, 114, 101, 100, 105, 116]⟩ ⟨#[115, 117, 98, 115, 99, 114, 105, 98, 101]⟩ = false ∧ eqS ⟨#[99, 114, 101, 100, 105, 116]⟩ ⟨#[116, 105, 99, 107]⟩ = false ∧ eqS ⟨#[99, 114, 101, 100, 105, 116]⟩ ⟨#[117, 110, 112, 117, 98, 108, 105, 115, 104]⟩ = false ∧ eqS ⟨#[99, 114, 101, 100, 105, 116]⟩ ⟨#[117, 110, 115, 117, 98, 115, 99, 114, 105, 98, 101]⟩ = false ∧ eqS ⟨#[99, 114, 101, 100, 105, 116]⟩ ⟨#[118, 105, 100, 101, 111]⟩ = false := by
 simp only [eqS_b];decide +kernel
theorem vq_data : eqS ⟨#[100, 97, 116, 97]⟩ ⟨#[97, 117, 100, 105, 111]⟩ = false ∧ eqS ⟨#[100, 97, 116, 97]⟩ ⟨#[99, 114, 101, 100, 105, 116]⟩ = false ∧ eqS ⟨#[100, 97, 116, 97]⟩ ⟨#[100, 97, 116, 97]⟩ = true ∧ eqS ⟨#[100, 97, 116, 97]⟩ ⟨#[106, 111, 105, 110]⟩ = false ∧ eqS ⟨#[100, 97, 116, 97]⟩ ⟨#[108, 101, 97, 118, 101]⟩ = false ∧ eqS ⟨#[100, 97, 116, 97]⟩ ⟨#[109, 117, 116, 101]⟩ = false ∧ eqS ⟨#[100, 97, 116, 97]⟩ ⟨#[112, 97, 117, 115, 101]⟩ = false ∧ eqS ⟨#[100, 97, 116, 97]⟩ ⟨#[115, 117, 98, 115, 99, 114, 105, 98, 101]⟩ = false ∧ eqS ⟨#[100, 97, 116, 97]⟩ ⟨#[116, 105, 99, 107]⟩ = false ∧ eqS ⟨#[100, 97, 116, 97]⟩ ⟨#[117, 110, 112, 117, 98, 108, 105, 115, 104]⟩ = false ∧ eqS ⟨#[100, 97, 116, 97]⟩ ⟨#[117, 110, 115, 117, 98, 115, 99, 114, 105, 98, 101]⟩ = false ∧ eqS ⟨#[100, 97, 116, 97]⟩ ⟨#[118, 105, 100, 101, 111]⟩ = false := by
 simp only [eqS_b];decide +kernel
theorem vq_join : eqS ⟨#[106, 111, 105, 110]⟩ ⟨#[97, 117, 100, 105, 111]⟩ = false ∧ eqS ⟨#[106, 111, 105, 110]⟩ ⟨#[99, 114, 101, 100, 105, 116]⟩ = false ∧ eqS ⟨#[106, 111, 105, 110]⟩ ⟨#[100, 97, 116, 97]⟩ = false ∧ eqS ⟨#[106, 111, 105, 110]⟩ ⟨#[106, 111, 105, 110]⟩ = true ∧ eqS ⟨#[106, 111, 105, 110]⟩ ⟨#[108, 101, 97, 118, 101]⟩ = false ∧ eqS ⟨#[106, 111, 105, 110]⟩ ⟨#[109, 117, 116, 101]⟩ = false ∧ eqS ⟨#[106, 111, 105, 110]⟩ ⟨#[112, 97, 117, 115, 101]⟩ = false ∧ eqS ⟨#[106, 111, 105, 110]⟩ ⟨#[115, 117, 98, 115, 99, 114, 105, 98, 101]⟩ = false ∧ eqS ⟨#[106, 111, 105, 110]⟩ ⟨#[116, 105, 99, 107]⟩ = false ∧ eqS ⟨#[106, 111, 105, 110]⟩ ⟨#[117, 110, 112, 117, 98, 108, 105, 115, 104]⟩ = false ∧ eqS ⟨#[106, 111, 105, 110]⟩ ⟨#[117, 110, 115, 117, 98, 115, 99, 114, 105, 98, 101]⟩ = false ∧ eqS ⟨#[106, 111, 105, 110]⟩ ⟨#[118, 105, 100, 101, 111]⟩ = false := by
 simp only [eqS_b];decide +kernel
theorem vq_leave : eqS ⟨#[108, 101, 97, 118, 101]⟩ ⟨#[97, 117, 100, 105, 111]⟩ = false ∧ eqS ⟨#[108, 101, 97, 118, 101]⟩ ⟨#[99, 114, 101, 100, 105, 116]⟩ = false ∧ eqS ⟨#[108, 101, 97, 118, 101]⟩ ⟨#[100, 97, 116, 97]⟩ = false ∧ eqS ⟨#[108, 101, 97, 118, 101]⟩ ⟨#[106, 111, 105, 110]⟩ = false ∧ eqS ⟨#[108, 101, 97, 118, 101]⟩ ⟨#[108, 101, 97, 118, 101]⟩ = true ∧ eqS ⟨#[108, 101, 97, 118, 101]⟩ ⟨#[109, 117, 116, 101]⟩ = false ∧ eqS ⟨#[108, 101, 97, 118, 101]⟩ ⟨#[112, 97, 117, 115, 101]⟩ = false ∧ eqS ⟨#[108, 101, 97, 118, 101]⟩ ⟨#[115, 117, 98, 115, 99, 114, 105, 98, 101]⟩ = false ∧ eqS ⟨#[108, 101, 97, 118, 101]⟩ ⟨#[116, 105, 99, 107]⟩ = false ∧ eqS ⟨#[108, 101, 97, 118, 101]⟩ ⟨#[117, 110, 112, 117, 98, 108, 105, 115, 104]⟩ = false ∧ eqS ⟨#[108, 101, 97, 118, 101]⟩ ⟨#[117, 110, 115, 117, 98, 115, 99, 114, 105, 98, 101]⟩ = false ∧ eqS ⟨#[108, 101, 97, 118, 101]⟩ ⟨#[118, 105, 100, 101, 111]⟩ = false := by
 simp only [eqS_b];decide +kernel
theorem vq_mute : eqS ⟨#[109, 117, 116, 101]⟩ ⟨#[97, 117, 100, 105, 111]⟩ = false ∧ eqS ⟨#[109, 117, 116, 101]⟩ ⟨#[99, 114, 101, 100, 105, 116]⟩ = false ∧ eqS ⟨#[109, 117, 116, 101]⟩ ⟨#[100, 97, 116, 97]⟩ = false ∧ eqS ⟨#[109, 117, 116, 101]⟩ ⟨#[106, 111, 105, 110]⟩ = false ∧ eqS ⟨#[109, 117, 116, 101]⟩ ⟨#[108, 101, 97, 118, 101]⟩ = false ∧ eqS ⟨#[109, 117, 116, 101]⟩ ⟨#[109, 117, 116, 101]⟩ = true ∧ eqS ⟨#[109, 117, 116, 101]⟩ ⟨#[112, 97, 117, 115, 101]⟩ = false ∧ eqS ⟨#[109, 117, 116, 101]⟩ ⟨#[115, 117, 98, 115, 99, 114, 105, 98, 101]⟩ = false ∧ eqS ⟨#[109, 117, 116, 101]⟩ ⟨#[116, 105, 99, 107]⟩ = false ∧ eqS ⟨#[109, 117, 116, 101]⟩ ⟨#[117, 110, 112, 117, 98, 108, 105, 115, 104]⟩ = false ∧ eqS ⟨#[109, 117, 116, 101]⟩ ⟨#[117, 110, 115, 117, 98, 115, 99, 114, 105, 98, 101]⟩ = false ∧ eqS ⟨#[109, 117, 116, 101]⟩ ⟨#[118, 105, 100, 101, 111]⟩ = false := by
 simp only [eqS_b];decide +kernel
theorem vq_pause : eqS ⟨#[112, 97, 117, 115, 101]⟩ ⟨#[97, 117, 100, 105, 111]⟩ = false ∧ eqS ⟨#[112, 97, 117, 115, 101]⟩ ⟨#[99, 114, 101, 100, 105, 116]⟩ = false ∧ eqS ⟨#[112, 97, 117, 115, 101]⟩ ⟨#[100, 97, 116, 97]⟩ = false ∧ eqS ⟨#[112, 97, 117, 115, 101]⟩ ⟨#[106, 111, 105, 110]⟩ = false ∧ eqS ⟨#[112, 97, 117, 115, 101]⟩ ⟨#[108, 101, 97, 118, 101]⟩ = false ∧ eqS ⟨#[112, 97, 117, 115, 101]⟩ ⟨#[109, 117, 116, 101]⟩ = false ∧ eqS ⟨#[112, 97, 117, 115, 101]⟩ ⟨#[112, 97, 117, 115, 101]⟩ = true ∧ eqS ⟨#[112, 97, 117, 115, 101]⟩ ⟨#[115, 117, 98, 115, 99, 114, 105, 98, 101]⟩ = false ∧ eqS ⟨#[112, 97, 117, 115, 101]⟩ ⟨#[116, 105, 99, 107]⟩ = false ∧ eqS ⟨#[112, 97, 117, 115, 101]⟩ ⟨#[117, 110, 112, 117, 98, 108, 105, 115, 104]⟩ = false ∧ eqS ⟨#[112, 97, 117, 115, 101]⟩ ⟨#[117, 110, 115, 117, 98, 115, 99, 114, 105, 98, 101]⟩ = false ∧ eqS ⟨#[112, 97, 117, 115, 101]⟩ ⟨#[118, 105, 100, 101, 111]⟩ = false := by
 simp only [eqS_b];decide +kernel
theorem vq_subscribe : eqS ⟨#[115, 117, 98, 115, 99, 114, 105, 98, 101]⟩ ⟨#[97, 117, 100, 105, 111]⟩ = false ∧ eqS ⟨#[115, 117, 98, 115, 99, 114, 105, 98, 101]⟩ ⟨#[99, 114, 101, 100, 105, 116]⟩ = false ∧ eqS ⟨#[115, 117, 98, 115, 99, 114, 105, 98, 101]⟩ ⟨#[100, 97, 116, 97]⟩ = false ∧ eqS ⟨#[115, 117, 98, 115, 99, 114, 105, 98, 101]⟩ ⟨#[106, 111, 105, 110]⟩ = false ∧ eqS ⟨#[115, 117, 98, 115, 99, 114, 105, 98, 101]⟩ ⟨#[108, 101, 97, 118, 101]⟩ = false ∧ eqS ⟨#[115, 117, 98, 115, 99, 114, 105, 98, 101]⟩ ⟨#[109, 117, 116, 101]⟩ = false ∧ eqS ⟨#[115, 117, 98, 115, 99, 114, 105, 98, 101]⟩ ⟨#[112, 97, 117, 115, 101]⟩ = false ∧ eqS ⟨#[115, 117, 98, 115, 99, 114, 105, 98, 101]⟩ ⟨#[115, 117, 98, 115, 99, 114, 105, 98, 101]⟩ = true ∧ eqS ⟨#[115, 117, 98, 115, 99, 114, 105, 98, 101]⟩ ⟨#[116, 105, 99, 107]⟩ = false ∧ eqS ⟨#[115, 117, 98, 115, 99, 114, 105, 98, 101]⟩ ⟨#[117, 110, 112, 117, 98, 108, 105, 115, 104]⟩ = false ∧ eqS ⟨#[115, 117, 98, 115, 99, 114, 105, 98, 101]⟩ ⟨#[117, 110, 115, 117, 98, 115, 99, 114, 105, 98, 101]⟩ = false ∧ eqS ⟨#[115, 117, 98, 115, 99, 114, 105, 98, 101]⟩ ⟨#[118, 105, 100, 101, 111]⟩ = false := by
 simp only [eqS_b];decide +kernel
theorem vq_tick : eqS ⟨#[116, 105, 99, 107]⟩ ⟨#[97, 117, 100, 105, 111]⟩ = false ∧ eqS ⟨#[116, 105, 99, 107]⟩ ⟨#[99, 114, 101, 100, 105, 116]⟩ = false ∧ eqS ⟨#[116, 105, 99, 107]⟩ ⟨#[100, 97, 116, 97]⟩ = false ∧ eqS ⟨#[116, 105, 99, 107]⟩ ⟨#[106, 111, 105, 110]⟩ = false ∧ eqS ⟨#[116, 105, 99, 107]⟩ ⟨#[108, 101, 97, 118, 101]⟩ = false ∧ eqS ⟨#[116, 105, 99, 107]⟩ ⟨#[109, 117, 116, 101]⟩ = false ∧ eqS ⟨#[116, 105, 99, 107]⟩ ⟨#[112, 97, 117, 115, 101]⟩ = false ∧ eqS ⟨#[116, 105, 99, 107]⟩ ⟨#[115, 117, 98, 115, 99, 114, 105, 98, 101]⟩ = false ∧ eqS ⟨#[116, 105, 99, 107]⟩ ⟨#[116, 105, 99, 107]⟩ = true ∧ eqS ⟨#[116, 105, 99, 107]⟩ ⟨#[117, 110, 112, 117, 98, 108, 105, 115, 104]⟩ = false ∧ eqS ⟨#[116, 105, 99, 107]⟩ ⟨#[117, 110, 115, 117, 98, 115, 99, 114, 105, 98, 101]⟩ = false ∧ eqS ⟨#[116, 105, 99, 107]⟩ ⟨#[118, 105, 100, 101, 111]⟩ = false := by
 simp only [eqS_b];decide +kernel
theorem vq_unpublish : eqS ⟨#[117, 110, 112, 117, 98, 108, 105, 115, 104]⟩ ⟨#[97, 117, 100, 105, 111]⟩ = false ∧ eqS ⟨#[117, 110, 112, 117, 98, 108, 105, 115, 104]⟩ ⟨#[99, 114, 101, 100, 105, 116]⟩ = false ∧ eqS ⟨#[117, 110, 112, 117, 98, 108, 105, 115, 104]⟩ ⟨#[100, 97, 116, 97]⟩ = false ∧ eqS ⟨#[117, 110, 112, 117, 98, 108, 105, 115, 104]⟩ ⟨#[106, 111, 105, 110]⟩ = false ∧ eqS ⟨#[117, 110, 112, 117, 98, 108, 105, 115, 104]⟩ ⟨#[108, 101, 97, 118, 101]⟩ = false ∧ eqS ⟨#[117, 110, 112, 117, 98, 108, 105, 115, 104]⟩ ⟨#[109, 117, 116, 101]⟩ = false ∧ eqS ⟨#[117, 110, 112, 117, 98, 108, 105, 115, 104]⟩ ⟨#[112, 97, 117, 115, 101]⟩ = false ∧ eqS ⟨#[117, 110, 112, 117, 98, 108, 105, 115, 104]⟩ ⟨#[115, 117, 98, 115, 99, 114, 105, 98, 101]⟩ = false ∧ eqS ⟨#[117, 110, 112, 117, 98, 108, 105, 115, 104]⟩ ⟨#[116, 105, 99, 107]⟩ = false ∧ eqS ⟨#[117, 110, 112, 117, 98, 108, 105, 115, 104]⟩ ⟨#[117, 110, 112, 117, 98, 108, 105, 115, 104]⟩ = true ∧ eqS ⟨#[117, 110, 112, 117, 98, 108, 105, 115, 104]⟩ ⟨#[117, 110, 115, 117, 98, 115, 99, 114, 105, 98, 101]⟩ = false ∧ eqS ⟨#[117, 110, 112, 117, 98, 108, 105, 115, 104]⟩ ⟨#[118, 105, 100, 101, 111]⟩ = false := by
 simp only [eqS_b];decide +kernel
theorem vq_unsubscribe : eqS ⟨#[117, 110, 115, 117, 98, 115, 99, 114, 105, 98, 101]⟩ ⟨#[97, 117, 100, 105, 111]⟩ = false ∧ eqS ⟨#[117, 110, 115, 117, 98, 115, 99, 114, 105, 98, 101]⟩ ⟨#[99, 114, 101, 100, 105, 116]⟩ = false ∧ eqS ⟨#[117, 110, 115, 117, 98, 115, 99, 114, 105, 98, 101]⟩ ⟨#[100, 97, 116, 97]⟩ = false ∧ eqS ⟨#[117, 110, 115, 117, 98, 115, 99, 114, 105, 98, 101]⟩ ⟨#[106, 111, 105, 110]⟩ = false ∧ eqS ⟨#[117, 110, 115, 117, 98, 115, 99, 114, 105, 98, 101]⟩ ⟨#[108, 101, 97, 118, 101]⟩ = false ∧ eqS ⟨#[117, 110, 115, 117, 98, 115, 99, 114, 105, 98, 101]⟩ ⟨#[109, 117, 116, 101]⟩ = false ∧ eqS ⟨#[117, 110, 115, 117, 98, 115, 99, 114, 105, 98, 101]⟩ ⟨#[112, 97, 117, 115, 101]⟩ = false ∧ eqS ⟨#[117, 110, 115, 117, 98, 115, 99, 114, 105, 98, 101]⟩ ⟨#[115, 117, 98, 115, 99, 114, 105, 98, 101]⟩ = false ∧ eqS ⟨#[117, 110, 115, 117, 98, 115, 99, 114, 105, 98, 101]⟩ ⟨#[116, 105, 99, 107]⟩ = false ∧ eqS ⟨#[117, 110, 115, 117, 98, 115, 99, 114, 105, 98, 101]⟩ ⟨#[117, 110, 112, 117, 98, 108, 105, 115, 104]⟩ = false ∧ eqS ⟨#[117, 110, 115, 117, 98, 115, 99, 114, 105, 98, 101]⟩ ⟨#[117, 110, 115, 117, 98, 115, 99, 114, 105, 98, 101]⟩ = true ∧ eqS ⟨#[117, 110, 115, 117, 98, 115, 99, 114, 105, 98, 101]⟩ ⟨#[118, 105, 100, 101, 111]⟩ = false := by
 simp only [eqS_b];decide +kernel
theorem vq_video : eqS ⟨#[118, 105, 100, 101, 111]⟩ ⟨#[97, 117, 100, 105, 111]⟩ = false ∧ eqS ⟨#[118, 105, 100, 101, 111]⟩ ⟨#[99, 114, 101, 100, 105, 116]⟩ = false ∧ eqS ⟨#[118, 105, 100, 101, 111]⟩ ⟨#[100, 97, 116, 97]⟩ = false ∧ eqS ⟨#[118, 105, 100, 101, 111]⟩ ⟨#[106, 111, 105, 110]⟩ = false ∧ eqS ⟨#[118, 105, 100, 101, 111]⟩ ⟨#[108, 101, 97, 118, 101]⟩ = false ∧ eqS ⟨#[118, 105, 100, 101, 111]⟩ ⟨#[109, 117, 116, 101]⟩ = false ∧ eqS ⟨#[118, 105, 100, 101, 111]⟩ ⟨#[112, 97, 117, 115, 101]⟩ = false ∧ eqS ⟨#[118, 105, 100, 101, 111]⟩ ⟨#[115, 117, 98, 115, 99, 114, 105, 98, 101]⟩ = false ∧ eqS ⟨#[118, 105, 100, 101, 111]⟩ ⟨#[116, 105, 99, 107]⟩ = false ∧ eqS ⟨#[118, 105, 100, 101, 111]⟩ ⟨#[117, 110, 112, 117, 98, 108, 105, 115, 104]⟩ = false ∧ eqS ⟨#[118, 105, 100, 101, 111]⟩ ⟨#[117, 110, 115, 117, 98, 115, 99, 114, 105, 98, 101]⟩ = false ∧ eqS ⟨#[118, 105, 100, 101, 111]⟩ ⟨#[118, 105, 100, 101, 111]⟩ = true := by
 simp only [eqS_b];decide +kernel
theorem in0 {l : List Int} (h : 1 ≤ l.length) : InB 0 (lenL l) := ⟨by omega, by rw [lenL_n]; omega⟩
theorem in1 {l : List Int} (h : 2 ≤ l.length) : InB 1 (lenL l) := ⟨by omega, by rw [lenL_n]; omega⟩
theorem in2 {l : List Int} (h : 3 ≤ l.length) : InB 2 (lenL l) := ⟨by omega, by rw [lenL_n]; omega⟩
theorem in3 {l : List Int} (h : 4 ≤ l.length) : InB 3 (lenL l) := ⟨by omega, by rw [lenL_n]; omega⟩
theorem len_t {α : Type} {l : List α} {n : Nat} (h : l.length = n) : eqI (lenL l) (n : Int) = true := eqI_t (by rw [lenL_n, h])
theorem len_f {α : Type} {l : List α} {n : Nat} (h : l.length ≠ n) : eqI (lenL l) (n : Int) = false := eqI_f (by rw [lenL_n]; omega)
theorem cmd_leave (l : List ByteArray) (hl : l.length ≤ 1000) : SameCmd ⟨#[108, 101, 97, 118, 101]⟩ l := by
 unfold SameCmd gi gA;simp only [vq_leave, pickB, cond_true, cond_false, numbers_eq, nums_d l hl, Lh];generalize numsR l = r;obtain ⟨ns, ok⟩ := r;cases ok with
 | false => exact ⟨_, _, rfl, rfl, cmdOk_of⟩
 | true =>
   simp only [notB, Bool.not_true, cond_false];by_cases hn : ns.length = 1
   ·rw [show eqI (lenL ns) 1 = true from len_t hn];simp only [cond_true];rw [Lf (in0 (l := ns) (by omega))];exact ⟨_, _, rfl, rfl, cmdOk_of⟩
   ·rw [show eqI (lenL ns) 1 = false from len_f hn];exact ⟨_, _, rfl, rfl, cmdOk_of⟩
theorem cmd_unpublish (l : List ByteArray) (hl : l.length ≤ 1000) : SameCmd ⟨#[117, 110, 112, 117, 98, 108, 105, 115, 104]⟩ l := by
 unfold SameCmd gi gA;simp only [vq_unpublish, pickB, cond_true, cond_false, numbers_eq, nums_d l hl, Lh];generalize numsR l = r;obtain ⟨ns, ok⟩ := r;cases ok with
 | false => exact ⟨_, _, rfl, rfl, cmdOk_of⟩
 | true =>
   simp only [notB, Bool.not_true, cond_false];by_cases hn : ns.length = 2
   ·rw [show eqI (lenL ns) 2 = true from len_t hn];simp only [cond_true];rw [Lf (in0 (l := ns) (by omega)), Lf (in1 (l := ns) (by omega))];exact ⟨_, _, rfl, rfl, cmdOk_of⟩
   ·rw [show eqI (lenL ns) 2 = false from len_f hn];exact ⟨_, _, rfl, rfl, cmdOk_of⟩
theorem cmd_subscribe (l : List ByteArray) (hl : l.length ≤ 1000) : SameCmd ⟨#[115, 117, 98, 115, 99, 114, 105, 98, 101]⟩ l := by
 unfold SameCmd gi gA;simp only [vq_subscribe, pickB, cond_true, cond_false, numbers_eq, nums_d l hl, Lh];generalize numsR l = r;obtain ⟨ns, ok⟩ := r;cases ok with
 | false => exact ⟨_, _, rfl, rfl, cmdOk_of⟩
 | true =>
   simp only [notB, Bool.not_true, cond_false];by_cases hn : ns.length = 4
   ·rw [show eqI (lenL ns) 4 = true from len_t hn];simp only [cond_true];rw [Lf (in0 (l := ns) (by omega)), Lf (in1 (l := ns) (by omega)), Lf (in2 (l := ns) (by omega)), Lf (in3 (l := ns) (by omega))];exact ⟨_, _, rfl, rfl, cmdOk_of⟩
   ·rw [show eqI (lenL ns) 4 = false from len_f hn];exact ⟨_, _, rfl, rfl, cmdOk_of⟩
theorem cmd_unsubscribe (l : List ByteArray) (hl : l.length ≤ 1000) : SameCmd ⟨#[117, 110, 115, 117, 98, 115, 99, 114, 105, 98, 101]⟩ l := by
 unfold SameCmd gi gA;simp only [vq_unsubscribe, pickB, cond_true, cond_false, numbers_eq, nums_d l hl, Lh];generalize numsR l = r;obtain ⟨ns, ok⟩ := r;cases ok with
 | false => exact ⟨_, _, rfl, rfl, cmdOk_of⟩
 | true =>
   simp only [notB, Bool.not_true, cond_false];by_cases hn : ns.length = 3
   ·rw [show eqI (lenL ns) 3 = true from len_t hn];simp only [cond_true];rw [Lf (in0 (l := ns) (by omega)), Lf (in1 (l := ns) (by omega)), Lf (in2 (l := ns) (by omega))];exact ⟨_, _, rfl, rfl, cmdOk_of⟩
   ·rw [show eqI (lenL ns) 3 = false from len_f hn];exact ⟨_, _, rfl, rfl, cmdOk_of⟩
theorem cmd_join (l : List ByteArray) (hl : l.length ≤ 1000) (hs : ∀ s ∈ l, s.size ≤ 400) : SameCmd ⟨#[106, 111, 105, 110]⟩ l := by
 unfold SameCmd gi gA;simp only [vq_join, pickB, cond_true, cond_false, numbers_eq, nums_d l hl, Lh];by_cases hn : l.length = 2
 ·rw [show eqI (lenL l) 2 = true from len_t hn, neI_f (show lenL l = 2 by rw [lenL_n]; omega)];simp only [cond_true, cond_false];rw [Lf (show InB 0 (lenL l) from ⟨by omega, by rw [lenL_n]; omega⟩), Lf (show InB 1 (lenL l) from ⟨by omega, by rw [lenL_n]; omega⟩), show nthI l 0 = l[0] from nth_n (k := 0) (by omega), show nthI l 1 = l[1] from nth_n (k := 1) (by omega)];exact ⟨_, _, rfl, rfl, hs _ (List.getElem_mem _), hs _ (List.getElem_mem _), Nat.zero_le _, fun x hx => by cases hx⟩
 ·rw [show eqI (lenL l) 2 = false from len_f hn, neI_t (show lenL l ≠ 2 by rw [lenL_n]; omega)];simp only [cond_true, cond_false];refine ⟨_, _, ?_, rfl, cmdOk_of⟩;cases notB (numsR l).2 <;> rfl
theorem cmd_video (l : List ByteArray) (hl : l.length ≤ 1000) : SameCmd ⟨#[118, 105, 100, 101, 111]⟩ l := by
 unfold SameCmd gi gA;simp only [vq_video, pickB, cond_true, cond_false, numbers_eq, nums_d l hl, publish_d _ l hl, Lh];by_cases hn : 2 < l.length
 ·rw [ltI_t (show (2 : Int) < lenL l by rw [lenL_n]; omega)];simp only [cond_true];have hsp : numsV l = (numsV (l.take 2)).bind fun a => (numsV (l.drop 2)).map (a ++ ·) := by rw [← numsV_app, List.take_append_drop]
  rw [Lf (show CutB 0 2 (lenL l) from ⟨by omega, by omega, by rw [lenL_n]; omega⟩), show cutL l 0 2 = l.take 2 from cut_to l 2, nums_d (l.take 2) (by rw [List.length_take]; omega)];simp only [Lh];rw [Lf (show CutB 2 (lenL l) (lenL l) from ⟨by omega, by rw [lenL_n]; omega, Int.le_refl _⟩), show cutL l 2 (lenL l) = l.drop 2 from cut_from l 2, sources_d (l.drop 2) (by rw [List.length_drop]; omega)];simp only [Lh];unfold numsR;cases h1 : numsV (l.take 2) with
  | none => rw [hsp, h1]; exact ⟨_, _, rfl, rfl, cmdOk_of⟩
  | some a => cases h2 : numsV (l.drop 2) with
    | none => rw [hsp, h1, h2]; exact ⟨_, _, rfl, rfl, cmdOk_of⟩
    | some b =>
      have la := numsV_len h1;have lb := numsV_len h2;rw [List.length_take] at la;rw [List.length_drop] at lb
      obtain ⟨x, y, rfl⟩ : ∃ x y, a = [x, y] := by
       have la2 : a.length = 2 := by omega
       match a, la2 with
       | [x, y], _ => exact ⟨x, y, rfl⟩
      rw [hsp, h1, h2];have h3 : 3 ≤ ([x, y] ++ b).length := by simp; omega
      simp only [Option.bind_some, Option.map_some, dif_pos h3];rw [ltI_t (show (0 : Int) < lenL b by rw [lenL_n]; omega)];simp only [notB, Bool.not_true, Bool.and_true, cond_false];rw [Lf (in0 (l := [x, y]) (by simp)), Lf (in1 (l := [x, y]) (by simp))];refine ⟨_, _, rfl, rfl, Nat.zero_le _, Nat.zero_le _, ?_, fun n h => numsV_rng h2 n h⟩;show b.length ≤ 1000;omega
 ·rw [ltI_f (show ¬ (2 : Int) < lenL l by rw [lenL_n]; omega)];simp only [cond_false]
  have e : (match numsV l with
   | some ns => if h : 3 ≤ ns.length then ((.mk 3 ⟨#[]⟩ ⟨#[]⟩ ns[0] 0 ns[1] 0 false true (ns.drop 2) : Cmd), true) else ((Ta.mk 0 ⟨#[]⟩ ⟨#[]⟩ 0 0 0 0 false false []), false)
   | none => ((Ta.mk 0 ⟨#[]⟩ ⟨#[]⟩ 0 0 0 0 false false []), false)) = ((Ta.mk 0 ⟨#[]⟩ ⟨#[]⟩ 0 0 0 0 false false []), false) := by
   cases h : numsV l with
   | none => rfl
   | some ns =>
     have := numsV_len h;simp only;rw [dif_neg (by omega)]
  rw [e];refine ⟨_, _, ?_, rfl, cmdOk_of⟩;cases notB (numsR l).2 <;> rfl
theorem cmd_audio (l : List ByteArray) (hl : l.length ≤ 1000) : SameCmd ⟨#[97, 117, 100, 105, 111]⟩ l := by
 unfold SameCmd gi gA;simp only [vq_audio, pickB, cond_true, cond_false, numbers_eq, nums_d l hl, publish_d _ l hl, Lh];by_cases hn : 2 < l.length
 ·rw [ltI_t (show (2 : Int) < lenL l by rw [lenL_n]; omega)];simp only [cond_true];have hsp : numsV l = (numsV (l.take 2)).bind fun a => (numsV (l.drop 2)).map (a ++ ·) := by rw [← numsV_app, List.take_append_drop]
  rw [Lf (show CutB 0 2 (lenL l) from ⟨by omega, by omega, by rw [lenL_n]; omega⟩), show cutL l 0 2 = l.take 2 from cut_to l 2, nums_d (l.take 2) (by rw [List.length_take]; omega)];simp only [Lh];rw [Lf (show CutB 2 (lenL l) (lenL l) from ⟨by omega, by rw [lenL_n]; omega, Int.le_refl _⟩), show cutL l 2 (lenL l) = l.drop 2 from cut_from l 2, sources_d (l.drop 2) (by rw [List.length_drop]; omega)];simp only [Lh];unfold numsR;cases h1 : numsV (l.take 2) with
  | none => rw [hsp, h1]; exact ⟨_, _, rfl, rfl, cmdOk_of⟩
  | some a => cases h2 : numsV (l.drop 2) with
    | none => rw [hsp, h1, h2]; exact ⟨_, _, rfl, rfl, cmdOk_of⟩
    | some b =>
      have la := numsV_len h1;have lb := numsV_len h2;rw [List.length_take] at la;rw [List.length_drop] at lb
      obtain ⟨x, y, rfl⟩ : ∃ x y, a = [x, y] := by
       have la2 : a.length = 2 := by omega
       match a, la2 with
       | [x, y], _ => exact ⟨x, y, rfl⟩
      rw [hsp, h1, h2];have h3 : 3 ≤ ([x, y] ++ b).length := by simp; omega
      simp only [Option.bind_some, Option.map_some, dif_pos h3];rw [ltI_t (show (0 : Int) < lenL b by rw [lenL_n]; omega)];simp only [notB, Bool.not_true, Bool.and_true, cond_false];rw [Lf (in0 (l := [x, y]) (by simp)), Lf (in1 (l := [x, y]) (by simp))];refine ⟨_, _, rfl, rfl, Nat.zero_le _, Nat.zero_le _, ?_, fun n h => numsV_rng h2 n h⟩;show b.length ≤ 1000;omega
 ·rw [ltI_f (show ¬ (2 : Int) < lenL l by rw [lenL_n]; omega)];simp only [cond_false]
  have e : (match numsV l with
   | some ns => if h : 3 ≤ ns.length then ((.mk 3 ⟨#[]⟩ ⟨#[]⟩ ns[0] 0 ns[1] 0 false false (ns.drop 2) : Cmd), true) else ((Ta.mk 0 ⟨#[]⟩ ⟨#[]⟩ 0 0 0 0 false false []), false)
   | none => ((Ta.mk 0 ⟨#[]⟩ ⟨#[]⟩ 0 0 0 0 false false []), false)) = ((Ta.mk 0 ⟨#[]⟩ ⟨#[]⟩ 0 0 0 0 false false []), false) := by
   cases h : numsV l with
   | none => rfl
   | some ns =>
     have := numsV_len h;simp only;rw [dif_neg (by omega)]
  rw [e];refine ⟨_, _, ?_, rfl, cmdOk_of⟩;cases notB (numsR l).2 <;> rfl
theorem cmd_mute (l : List ByteArray) (hl : l.length ≤ 1000) : SameCmd ⟨#[109, 117, 116, 101]⟩ l := by
 unfold SameCmd gi gA;simp only [vq_mute, pickB, cond_true, cond_false, numbers_eq, nums_d l hl, Lh];by_cases h1 : 1 < l.length
 ·rw [ltI_t (show (1 : Int) < lenL l by rw [lenL_n]; omega)];simp only [cond_true];unfold gO gJ gae;have hsub : subI .i64 (lenL l) 1 = ((l.length - 1 : Nat) : Int) := by rw [lenL_n, subI_n (by omega) (by omega)]; omega
  simp only [hsub];rw [eqI_f (show lenL l ≠ 0 by rw [lenL_n]; omega), Lf (show CutB 0 ((l.length - 1 : Nat) : Int) (lenL l) from ⟨by omega, by omega, by rw [lenL_n]; omega⟩), Lf (show InB ((l.length - 1 : Nat) : Int) (lenL l) from ⟨by omega, by rw [lenL_n]; omega⟩), cut_to, numbers_eq, nums_d (l.take (l.length - 1)) (by rw [List.length_take]; omega)];simp only [cond_false, Lh];rw [Lf (show CutB 0 ((l.length - 1 : Nat) : Int) (lenL l) from ⟨by omega, by omega, by rw [lenL_n]; omega⟩)]
  try simp only [Lh]
  rw [Lf (show InB ((l.length - 1 : Nat) : Int) (lenL l) from ⟨by omega, by rw [lenL_n]; omega⟩)];simp only [vq_mute, pickB, cond_true, cond_false];generalize numsR (l.take (l.length - 1)) = r;obtain ⟨ns, ok⟩ := r;generalize nthI l ((l.length - 1 : Nat) : Int) = w;simp only [neS_b];generalize hA : eqS w ⟨#[111, 110]⟩ = A;generalize hB : eqS w ⟨#[111, 102, 102]⟩ = B;have e7 : ∀ a b : Int, eqI a a = true := fun a _ => eqI_t rfl;simp only [show eqI 7 7 = true from eqI_t rfl, show eqI 7 8 = false from eqI_f (by decide), cond_true, cond_false];by_cases hn : ns.length = 2
  ·rw [show eqI (lenL ns) 2 = true from len_t hn, Lf (in0 (l := ns) (by omega)), Lf (in1 (l := ns) (by omega))];cases ok <;> cases A <;> cases B <;> exact ⟨_, _, rfl, rfl, cmdOk_of⟩
  ·rw [show eqI (lenL ns) 2 = false from len_f hn];cases ok <;> cases A <;> cases B <;> exact ⟨_, _, rfl, rfl, cmdOk_of⟩
 ·rw [ltI_f (show ¬ (1 : Int) < lenL l by rw [lenL_n]; omega)];simp only [cond_false];unfold gJ;by_cases h0 : l.length = 0
  ·rw [show eqI (lenL l) 0 = true from eqI_t (by rw [lenL_n]; omega)];simp only [cond_true, Lh];refine ⟨_, _, ?_, rfl, cmdOk_of⟩;cases notB (numsR l).2 <;> rfl
  ·have hsub : subI .i64 (lenL l) 1 = ((0 : Nat) : Int) := by rw [lenL_n, subI_n (by omega) (by omega)]; omega
   simp only [hsub];rw [eqI_f (show lenL l ≠ 0 by rw [lenL_n]; omega), Lf (show InB ((0 : Nat) : Int) (lenL l) from ⟨by omega, by rw [lenL_n]; omega⟩), Lf (show CutB 0 ((0 : Nat) : Int) (lenL l) from ⟨by omega, by omega, by rw [lenL_n]; omega⟩), cut_to, List.take_zero, nums_d [] (by simp)];simp only [cond_false, Lh, numsR, numsV, notB, Bool.not_true];generalize nthI l ((0 : Nat) : Int) = w;simp only [neS_b];generalize eqS w ⟨#[111, 110]⟩ = A;generalize eqS w ⟨#[111, 102, 102]⟩ = B;have e0 : ∀ n : Nat, n ≠ 0 → eqI (lenL ([] : List Int)) (n : Int) = false := fun n h => len_f (by simp; omega);have e2 : eqI (lenL ([] : List Int)) 2 = false := e0 2 (by omega);have e3 : eqI (lenL ([] : List Int)) 3 = false := e0 3 (by omega);rw [e2, e3];refine ⟨(Ta.mk 0 ⟨#[]⟩ ⟨#[]⟩ 0 0 0 0 false false []), false, ?_, ?_, cmdOk_of⟩
   ·cases numsV l <;> rfl
   ·cases A <;> cases B <;> simp [pickB]
theorem cmd_pause (l : List ByteArray) (hl : l.length ≤ 1000) : SameCmd ⟨#[112, 97, 117, 115, 101]⟩ l := by
 unfold SameCmd gi gA;simp only [vq_pause, pickB, cond_true, cond_false, numbers_eq, nums_d l hl, Lh];by_cases h1 : 1 < l.length
 ·rw [ltI_t (show (1 : Int) < lenL l by rw [lenL_n]; omega)];simp only [cond_true];unfold gO gJ gae;have hsub : subI .i64 (lenL l) 1 = ((l.length - 1 : Nat) : Int) := by rw [lenL_n, subI_n (by omega) (by omega)]; omega
  simp only [hsub];rw [eqI_f (show lenL l ≠ 0 by rw [lenL_n]; omega), Lf (show CutB 0 ((l.length - 1 : Nat) : Int) (lenL l) from ⟨by omega, by omega, by rw [lenL_n]; omega⟩), Lf (show InB ((l.length - 1 : Nat) : Int) (lenL l) from ⟨by omega, by rw [lenL_n]; omega⟩), cut_to, numbers_eq, nums_d (l.take (l.length - 1)) (by rw [List.length_take]; omega)];simp only [cond_false, Lh];rw [Lf (show CutB 0 ((l.length - 1 : Nat) : Int) (lenL l) from ⟨by omega, by omega, by rw [lenL_n]; omega⟩)]
  try simp only [Lh]
  rw [Lf (show InB ((l.length - 1 : Nat) : Int) (lenL l) from ⟨by omega, by rw [lenL_n]; omega⟩)];simp only [vq_pause, pickB, cond_true, cond_false];generalize numsR (l.take (l.length - 1)) = r;obtain ⟨ns, ok⟩ := r;generalize nthI l ((l.length - 1 : Nat) : Int) = w;simp only [neS_b];generalize hA : eqS w ⟨#[111, 110]⟩ = A;generalize hB : eqS w ⟨#[111, 102, 102]⟩ = B;have e7 : ∀ a b : Int, eqI a a = true := fun a _ => eqI_t rfl;simp only [show eqI 8 8 = true from eqI_t rfl, show eqI 8 7 = false from eqI_f (by decide), cond_true, cond_false];by_cases hn : ns.length = 3
  ·rw [show eqI (lenL ns) 3 = true from len_t hn, Lf (in0 (l := ns) (by omega)), Lf (in1 (l := ns) (by omega)), Lf (in2 (l := ns) (by omega))];cases ok <;> cases A <;> cases B <;> exact ⟨_, _, rfl, rfl, cmdOk_of⟩
  ·rw [show eqI (lenL ns) 3 = false from len_f hn];cases ok <;> cases A <;> cases B <;> exact ⟨_, _, rfl, rfl, cmdOk_of⟩
 ·rw [ltI_f (show ¬ (1 : Int) < lenL l by rw [lenL_n]; omega)];simp only [cond_false];unfold gJ;by_cases h0 : l.length = 0
  ·rw [show eqI (lenL l) 0 = true from eqI_t (by rw [lenL_n]; omega)];simp only [cond_true, Lh];refine ⟨_, _, ?_, rfl, cmdOk_of⟩;cases notB (numsR l).2 <;> rfl
  ·have hsub : subI .i64 (lenL l) 1 = ((0 : Nat) : Int) := by rw [lenL_n, subI_n (by omega) (by omega)]; omega
   simp only [hsub];rw [eqI_f (show lenL l ≠ 0 by rw [lenL_n]; omega), Lf (show InB ((0 : Nat) : Int) (lenL l) from ⟨by omega, by rw [lenL_n]; omega⟩), Lf (show CutB 0 ((0 : Nat) : Int) (lenL l) from ⟨by omega, by omega, by rw [lenL_n]; omega⟩), cut_to, List.take_zero, nums_d [] (by simp)];simp only [cond_false, Lh, numsR, numsV, notB, Bool.not_true];generalize nthI l ((0 : Nat) : Int) = w;simp only [neS_b];generalize eqS w ⟨#[111, 110]⟩ = A;generalize eqS w ⟨#[111, 102, 102]⟩ = B;have e0 : ∀ n : Nat, n ≠ 0 → eqI (lenL ([] : List Int)) (n : Int) = false := fun n h => len_f (by simp; omega);have e2 : eqI (lenL ([] : List Int)) 2 = false := e0 2 (by omega);have e3 : eqI (lenL ([] : List Int)) 3 = false := e0 3 (by omega);rw [e2, e3];refine ⟨(Ta.mk 0 ⟨#[]⟩ ⟨#[]⟩ 0 0 0 0 false false []), false, ?_, ?_, cmdOk_of⟩
   ·cases numsV l <;> rfl
   ·cases A <;> cases B <;> simp [pickB]
theorem cmd_tick (l : List ByteArray) (hl : l.length ≤ 1000) : gi ⟨#[116, 105, 99, 107]⟩ l = some ((Ta.mk 0 ⟨#[]⟩ ⟨#[]⟩ 0 0 0 0 false false []), false) := by
 unfold gi;simp only [vq_tick, pickB, cond_false, numbers_eq, nums_d l hl, Lh];cases notB (numsR l).2 <;> rfl
theorem cmd_credit (l : List ByteArray) (hl : l.length ≤ 1000) : gi ⟨#[99, 114, 101, 100, 105, 116]⟩ l = some ((Ta.mk 0 ⟨#[]⟩ ⟨#[]⟩ 0 0 0 0 false false []), false) := by
 unfold gi;simp only [vq_credit, pickB, cond_false, numbers_eq, nums_d l hl, Lh];cases notB (numsR l).2 <;> rfl
theorem cmd_data (l : List ByteArray) (hl : l.length ≤ 1000) : gi ⟨#[100, 97, 116, 97]⟩ l = some ((Ta.mk 0 ⟨#[]⟩ ⟨#[]⟩ 0 0 0 0 false false []), false) := by
 unfold gi;simp only [vq_data, pickB, cond_false, numbers_eq, nums_d l hl, Lh];cases notB (numsR l).2 <;> rfl
theorem pl_audio (l : List ByteArray) : gg ⟨#[97, 117, 100, 105, 111]⟩ l = some ((Tc.mk 0 0 ⟨#[]⟩ 0), false) := by
 unfold gg;simp only [vq_audio, pickB, cond_false]
theorem pl_join (l : List ByteArray) : gg ⟨#[106, 111, 105, 110]⟩ l = some ((Tc.mk 0 0 ⟨#[]⟩ 0), false) := by
 unfold gg;simp only [vq_join, pickB, cond_false]
theorem pl_leave (l : List ByteArray) : gg ⟨#[108, 101, 97, 118, 101]⟩ l = some ((Tc.mk 0 0 ⟨#[]⟩ 0), false) := by
 unfold gg;simp only [vq_leave, pickB, cond_false]
theorem pl_mute (l : List ByteArray) : gg ⟨#[109, 117, 116, 101]⟩ l = some ((Tc.mk 0 0 ⟨#[]⟩ 0), false) := by
 unfold gg;simp only [vq_mute, pickB, cond_false]
theorem pl_pause (l : List ByteArray) : gg ⟨#[112, 97, 117, 115, 101]⟩ l = some ((Tc.mk 0 0 ⟨#[]⟩ 0), false) := by
 unfold gg;simp only [vq_pause, pickB, cond_false]
theorem pl_subscribe (l : List ByteArray) : gg ⟨#[115, 117, 98, 115, 99, 114, 105, 98, 101]⟩ l = some ((Tc.mk 0 0 ⟨#[]⟩ 0), false) := by
 unfold gg;simp only [vq_subscribe, pickB, cond_false]
theorem pl_unpublish (l : List ByteArray) : gg ⟨#[117, 110, 112, 117, 98, 108, 105, 115, 104]⟩ l = some ((Tc.mk 0 0 ⟨#[]⟩ 0), false) := by
 unfold gg;simp only [vq_unpublish, pickB, cond_false]
theorem pl_unsubscribe (l : List ByteArray) : gg ⟨#[117, 110, 115, 117, 98, 115, 99, 114, 105, 98, 101]⟩ l = some ((Tc.mk 0 0 ⟨#[]⟩ 0), false) := by
 unfold gg;simp only [vq_unsubscribe, pickB, cond_false]
theorem pl_video (l : List ByteArray) : gg ⟨#[118, 105, 100, 101, 111]⟩ l = some ((Tc.mk 0 0 ⟨#[]⟩ 0), false) := by
 unfold gg;simp only [vq_video, pickB, cond_false]
end Go.Proofs
