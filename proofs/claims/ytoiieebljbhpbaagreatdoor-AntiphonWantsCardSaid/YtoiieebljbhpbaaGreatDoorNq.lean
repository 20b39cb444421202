import Derived.Test.YtoiieebljbhpbaaGreatDoorM17
import Derived.Test.YtoiieebljbhpbaaGreatDoorM20
namespace Go.Proofs
open Go.Ab Go.Lib
theorem need_u {α : Type} {a b : Bool} {p : Prop} {x : Option α} (h : a = b → p) : need (Under a b p) x = x := Lh h
theorem need_s {α β : Type} {a b : Bool} {v : β} {x : Option α} : need (Under a b ((some v).isSome = true)) x = x := Lh fun _ => rfl
theorem need_ss {α β : Type} {a b c d : Bool} {v : β} {x : Option α} : need (Under a b (Under c d ((some v).isSome = true))) x = x := Lh fun _ _ => rfl
noncomputable def clsR (r : Int) : Int := if r = 45 ∨ r = 95 ∨ r = 46 then 3 else bif letterR r then 1 else bif digitR r then 2 else 0
theorem class_d {r : Int} (h : I32B r) : gaq r = some (clsR r) := by
 have hb : ((decide (r = 45) || decide (r = 95)) || decide (r = 46)) = decide (r = 45 ∨ r = 95 ∨ r = 46) := by
  simp [Bool.decide_or, Bool.or_assoc]
 simp only [gaq, clsR, qaj, eqI_d, Lh h, hb];by_cases hj : r = 45 ∨ r = 95 ∨ r = 46
 ·simp [hj]
 ·simp only [hj, decide_false, cond_false, if_false];cases letterR r <;> cases digitR r <;> rfl
theorem class_d' {r : Int} (h : I32B r) : ga1 r = some (clsR r) := class_d h
theorem cls_bad : clsR 65533 = 0 := by
 have h1 : letterR 65533 = false := by unfold letterR; decide +kernel
 have h2 : digitR 65533 = false := by unfold digitR; decide +kernel
 unfold clsR;rw [if_neg (by omega), h1, h2];rfl
noncomputable def okFrom : Int → List Int → Bool
 | _, [] => true
 | p, r :: l => decide (clsR r ≠ 0) && !(decide (clsR r = 3) && (decide (p = 3) || l.isEmpty)) && okFrom (clsR r) l
noncomputable def okRun : Int → List Int → Option Int
 | k, [] => some k
 | k, r :: l => if clsR r = 0 ∨ (clsR r = 3 ∧ k = 3) then none else okRun (clsR r) l
noncomputable def goodB (l : List Int) : Bool := decide (1 ≤ l.length) && decide (l.length ≤ 16) && okFrom 3 l
theorem okFrom_run : ∀ (l : List Int) (p : Int), l ≠ [] → okFrom p l = match okRun p l with | some k => decide (k ≠ 3) | none => false
 | [], _, h => absurd rfl h
 | [r], p, _ => by
   unfold okFrom okRun okFrom okRun;by_cases h0 : clsR r = 0
   ·simp [h0]
   ·by_cases h3 : clsR r = 3
    ·by_cases hp : p = 3 <;> simp [h3, hp]
    ·simp [h0, h3]
 | r :: r' :: l, p, _ => by
   rw [okFrom, okRun];have ih := okFrom_run (r' :: l) (clsR r) (by simp);by_cases h0 : clsR r = 0
   ·simp [h0]
   ·by_cases h3 : clsR r = 3
    ·by_cases hp : p = 3
     ·simp [h3, hp]
     ·rw [ih]; simp [h3, hp]
    ·rw [ih]; simp [h0, h3]
theorem okFrom_bad : ∀ (l : List Int) (p : Int), 65533 ∈ l → okFrom p l = false
 | [], _, h => by cases h
 | r :: l, p, h => by
   rw [okFrom];rcases List.mem_cons.1 h with h | h
   ·subst h; simp [cls_bad]
   ·rw [okFrom_bad l _ h]; simp
theorem check_loop : ∀ (m : Nat) (s : ByteArray) (pos : Nat) (n k : Int), (restS s pos).length ≤ m → 0 ≤ n → n + m ≤ 1000000000 →
  loopF (gE.loop1 s) (n, k, pos) = some (match okRun k (scan s pos) with | none => .out 6 | some k' => .go (n + (scan s pos).length, k')) := by
 intro m
 induction m with
 | zero =>
   intro s pos n k hm _ _;have h : restS s pos = [] := List.eq_nil_of_length_eq_zero (by omega);rw [loopF_eq];simp only [gE.loop1, nextB_f h, cond_false, scan_f h, okRun];simp
 | succ m ih =>
   intro s pos n k hm hn hb;by_cases h : restS s pos = []
   ·rw [loopF_eq];simp only [gE.loop1, nextB_f h, cond_false, scan_f h, okRun];simp
   rw [loopF_eq, scan_t h, okRun];simp only [gE.loop1, nextB_t h, cond_true, class_d (rune_I32 s pos), Le];generalize hc : clsR (runeS s pos) = c;have hr : runeS s pos = 65533 → c = 0 := fun e => by rw [← hc, e, cls_bad]
   by_cases hbad : c = 0 ∨ (c = 3 ∧ k = 3)
   ·have e : qaf (eqI c 0) true (qaf (eqI c 3) (eqI k 3) false) = true := by
     rw [qaj, qai, eqI_d, eqI_d, eqI_d];rcases hbad with h | h
     ·simp [h]
     ·simp [h.1, h.2]
    rw [if_pos hbad, e, need_u (fun _ q => by cases q), need_u (fun _ q => by cases q)];rfl
   ·have e : qaf (eqI c 0) true (qaf (eqI c 3) (eqI k 3) false) = false := by
     rw [qaj, qai, eqI_d, eqI_d, eqI_d];have h1 : c ≠ 0 := fun q => hbad (.inl q);by_cases h3 : c = 3
     ·have h2 : k ≠ 3 := fun q => hbad (.inr ⟨h3, q⟩);simp [h3, h2]
     ·simp [h1, h3]
    have hr' : eqI (runeS s pos) 65533 = false := eqI_f fun q => hbad (.inl (hr q));rw [if_neg hbad, e, hr', need_u (fun q => by cases q), need_u (fun q => by cases q)];have hst := step_gt s pos;have hl := qbd s pos;have hl' := qbd s (stepS s pos);have hpos := List.length_pos_iff.2 h;simp only [qaf, cond_false, addI_n (show -9223372036854775808 ≤ n + 1 by omega) (by omega)];rw [ih s (stepS s pos) (n + 1) c (by omega) (by omega) (by omega)];have e2 : n + 1 + ((scan s (stepS s pos)).length : Int) = n + (((runeS s pos :: scan s (stepS s pos)).length : Nat) : Int) := by simp only [List.length_cons]; omega
    rw [e2]
theorem check_d {s : ByteArray} (hs : s.size ≤ 1000000) : gE s = some (if goodB (scan s 0) = true then 0 else 6) := by
 have hlen := scan_len s 0;have hb0 : restS s 0 = qar s := rfl;have hbl := bytesOf_len s;unfold gE;by_cases h0 : qar s = []
 ·have e : eqS s ⟨#[]⟩ = true := by rw [eqS_b, h0]; rfl
  rw [e, scan_f (by rw [hb0, h0])];rfl
 have e : eqS s ⟨#[]⟩ = false := by
  rw [eqS_b, decide_eq_false];exact h0
 have hpos := List.length_pos_iff.2 h0;rw [e];by_cases h64 : 64 < s.size
 ·have e2 : ltI 64 (lenS s) = true := ltI_t (by unfold lenS; omega)
  have e3 : goodB (scan s 0) = false := by
   unfold goodB;have : decide ((scan s 0).length ≤ 16) = false := decide_eq_false (by omega);rw [this]; simp
  rw [e2, e3];rfl
 ·have e2 : ltI 64 (lenS s) = false := ltI_f (by unfold lenS; omega);rw [e2];simp only [qaf, cond_false];rw [check_loop s.size s 0 0 3 (by rw [hb0, hbl]; exact Nat.le_refl _) (by omega) (by omega)]
  have hne : scan s 0 ≠ [] := by
   intro q;have := congrArg List.length q;simp only [List.length_nil] at this;omega
  have hg : goodB (scan s 0) = (decide ((scan s 0).length ≤ 16) && okFrom 3 (scan s 0)) := by
   unfold goodB;have : decide (1 ≤ (scan s 0).length) = true := decide_eq_true (List.length_pos_iff.2 hne);rw [this];rfl
  rw [hg, okFrom_run _ _ hne];cases ho : okRun 3 (scan s 0) with
  | none => simp
  | some k =>
    simp only [Le, qal];by_cases h16 : (scan s 0).length ≤ 16
    ·have e3 : ltI 16 (0 + ((scan s 0).length : Int)) = false := ltI_f (by omega);rw [e3];by_cases hk : k = 3
     ·subst hk; simp [eqI_d]
     ·simp [eqI_d, hk, h16]
    ·have e3 : ltI 16 (0 + ((scan s 0).length : Int)) = true := ltI_t (by omega);rw [e3];simp [h16]
def sizeR (r : Int) : Int := if r < 128 then 1 else if r < 2048 then 2 else if r < 65536 then 3 else 4
theorem size_d (r : Int) : gbc r = some (sizeR r) := by
 unfold gbc sizeR;simp only [ltI_d];by_cases h1 : r < 128
 ·simp [h1]
 ·by_cases h2 : r < 2048
  ·simp [h1, h2]
  ·by_cases h3 : r < 65536 <;> simp [h1, h2, h3]
theorem sizeR_enc {r : Int} (h : ValidR r) : sizeR r = (encodeRune r).length := by
 unfold ValidR at h;unfold sizeR encodeRune;rw [List.length_map];by_cases h1 : r < 128
 ·rw [if_pos h1, encodeRuneZ_one (by omega) (by omega)]; rfl
 rw [if_neg h1];by_cases h2 : r < 2048
 ·rw [if_pos h2, encodeRuneZ_two (by omega) (by omega)]; rfl
 rw [if_neg h2];by_cases h3 : r < 65536
 ·rw [if_pos h3, encodeRuneZ_three (by omega)]; rfl
 ·rw [if_neg h3, encodeRuneZ_four (by omega) (by omega)]; rfl
theorem sizeR_pos (r : Int) : 1 ≤ sizeR r ∧ sizeR r ≤ 4 := by
 unfold sizeR
 repeat' split
 all_goals omega
theorem runes_loop (s : ByteArray) (hs : s.size ≤ 1000000) : ∀ (m pos : Nat) (p : Int) (out : List Int), (restS s pos).length ≤ m → 0 ≤ p → p ≤ s.size → out.length + m ≤ 1000000 → (65533 ∉ out → p = pos) →
  ∃ r, loopF (gaP.loop1 s) (p, out, pos) = some r ∧ (r = .go (out ++ scan s pos) ∨ (r = .out ([], false) ∧ 65533 ∈ out ++ scan s pos)) := by
 intro m
 induction m with
 | zero =>
   intro pos p out hm _ _ _ _;have h : restS s pos = [] := List.eq_nil_of_length_eq_zero (by omega);refine ⟨_, ?_, .inl rfl⟩;rw [loopF_eq];simp [gaP.loop1, nextB_f h, scan_f h]
 | succ m ih =>
   intro pos p out hm hp0 hp1 hb hsync;by_cases h : restS s pos = []
   ·refine ⟨_, ?_, .inl rfl⟩;rw [loopF_eq];simp [gaP.loop1, nextB_f h, scan_f h]
   rw [loopF_eq, scan_t h];simp only [gaP.loop1, nextB_t h, cond_true, size_d, Le];have hsz := sizeR_pos (runeS s pos);have hst := step_gt s pos;have hl := qbd s pos;have hl' := qbd s (stepS s pos);have hpos := List.length_pos_iff.2 h;have hadd : addI .i64 p (sizeR (runeS s pos)) = p + sizeR (runeS s pos) := addI_n (by omega) (by omega);have hlen : lenS s = s.size := rfl;rw [hadd]
   have key : 65533 ∉ out → runeS s pos ≠ 65533 → p = pos ∧ sizeR (runeS s pos) = ((decodeL (restS s pos)).2 : Int) ∧ encodeRune (runeS s pos) = (restS s pos).take (decodeL (restS s pos)).2 := by
    intro h1 h2;have hd := runeS_d s pos
    have he : encodeRune (runeS s pos) = (restS s pos).take (decodeL (restS s pos)).2 := by
     rw [hd];refine encode_decode _ h fun q => h2 ?_;rw [hd, q.1]; rfl
    refine ⟨hsync h1, ?_, he⟩;rw [sizeR_enc (by rw [hd]; exact dec_valid _), he, List.length_take, Nat.min_eq_left (decodeL_le _ h)]
   have hle := decodeL_le _ h
   rw [need_u (fun q => by
    have : ¬ lenS s < p + sizeR (runeS s pos) := by
     intro q';rw [ltI_t q'] at q;cases q
    exact ⟨hp0, by omega, by omega⟩)]
   by_cases hlt : lenS s < p + sizeR (runeS s pos)
   ·rw [ltI_t hlt];refine ⟨_, rfl, .inr ⟨rfl, ?_⟩⟩;refine Classical.byContradiction fun hno => ?_;simp only [List.mem_append, List.mem_cons, not_or] at hno;obtain ⟨k1, k2, _⟩ := key hno.1 (fun q => hno.2.1 q.symm);omega
   ·rw [ltI_f hlt];simp only [qaf, cond_false, neS_b, eqS_b, runes_b, cutS_b, List.flatMap_cons, List.flatMap_nil, List.append_nil];by_cases heq : encodeRune (runeS s pos) = ((qar s).drop p.toNat).take ((p + sizeR (runeS s pos)).toNat - p.toNat)
    ·simp only [heq, decide_true, Bool.not_true, cond_false];rw [Lh (by unfold AppB qat; omega)]
     have hsy : 65533 ∉ out ++ [runeS s pos] → p + sizeR (runeS s pos) = (stepS s pos : Nat) := by
      intro hno;simp only [List.mem_append, List.mem_cons, List.not_mem_nil, or_false, not_or] at hno;obtain ⟨k1, k2, _⟩ := key hno.1 (fun q => hno.2 q.symm);rw [stepS_d]; omega
     obtain ⟨r, h1, h2⟩ := ih (stepS s pos) (p + sizeR (runeS s pos)) (out ++ [runeS s pos]) (by omega) (by omega) (by omega) (by simp only [List.length_append, List.length_cons, List.length_nil]; omega) hsy;refine ⟨r, h1, ?_⟩;simpa using h2
    ·simp only [heq, decide_false, Bool.not_false, cond_true];refine ⟨_, rfl, .inr ⟨rfl, ?_⟩⟩;refine Classical.byContradiction fun hno => ?_;simp only [List.mem_append, List.mem_cons, not_or] at hno;obtain ⟨k1, k2, k3⟩ := key hno.1 (fun q => hno.2.1 q.symm);apply heq;rw [k3, k2, k1];unfold restS;rw [show ((pos : Int) + ((decodeL ((qar s).drop pos)).2 : Int)).toNat - (pos : Int).toNat = (decodeL ((qar s).drop pos)).2 by omega, Int.toNat_natCast]
theorem runes_d {s : ByteArray} (hs : s.size ≤ 100000) : ∃ l ok, gaP s = some (l, ok) ∧ ((ok = true ∧ l = scan s 0) ∨ (ok = false ∧ l = [] ∧ 65533 ∈ scan s 0)) := by
 obtain ⟨r, h1, h2⟩ := runes_loop s (by omega) s.size 0 0 [] (by rw [qbd]; exact Nat.le_refl _) (by omega) (by omega) (by simp only [List.length_nil]; omega) (fun _ => rfl);unfold gaP;rw [h1];rcases h2 with rfl | ⟨rfl, h⟩
 ·exact ⟨_, _, rfl, .inl ⟨rfl, rfl⟩⟩
 ·exact ⟨_, _, rfl, .inr ⟨rfl, rfl, h⟩⟩
noncomputable def prevOf (pre : List Int) : Int := match pre.getLast? with
 | some r => clsR r
 | none => 3
theorem prevOf_snoc (pre : List Int) (r : Int) : prevOf (pre ++ [r]) = clsR r := by simp [prevOf]
theorem nth_at (pre t : List Int) (r : Int) : nthI (pre ++ r :: t) (pre.length : Int) = r := by
 simp [nthI]
theorem nth_snoc (q t : List Int) (x : Int) : nthI (q ++ [x] ++ t) (((q ++ [x]).length : Int) - 1) = x := by
 have : (((q ++ [x]).length : Int) - 1).toNat = q.length := by simp only [List.length_append, List.length_cons, List.length_nil]; omega
 unfold nthI;rw [this];simp
theorem good_loop (l : List Int) (b : Bool) (hl : ∀ r ∈ l, I32B r) (hlen : l.length ≤ 1000) : ∀ (suf pre : List Int), l = pre ++ suf →
  loopF (gat.loop1 (l, b)) (pre.length : Int) = some (if okFrom (prevOf pre) suf = true then .go () else .out false)
 | [], pre, e => by
   rw [loopF_eq];have : ltI (pre.length : Int) (qat l) = false := ltI_f (by rw [e]; unfold qat; simp);simp only [gat.loop1, this, cond_false, okFrom, if_true]
 | r :: t, pre, e => by
   have hL : l.length = pre.length + (t.length + 1) := by rw [e]; simp
   have hr : I32B r := hl r (by rw [e]; simp);have hlt : ltI (pre.length : Int) (qat l) = true := ltI_t (by unfold qat; omega);have hnth : nthI l (pre.length : Int) = r := by rw [e]; exact nth_at pre t r
   have hsub : subI .i64 (qat l) 1 = (pre.length : Int) + t.length := by
    rw [subI_n (by unfold qat; omega) (by unfold qat; omega)];unfold qat; omega
   have hadd : addI .i64 (pre.length : Int) 1 = ((pre ++ [r]).length : Nat) := by
    rw [addI_n (by omega) (by omega)];simp
   have ih := good_loop l b hl hlen t (pre ++ [r]) (by rw [e]; simp);rw [prevOf_snoc] at ih;rw [loopF_eq, okFrom];simp only [gat.loop1, hlt, cond_true, hnth, class_d' hr, Le, hsub, hadd];rw [Lh (show InB _ _ from ⟨by omega, by unfold qat; omega⟩)];generalize hc : clsR r = c at *
   have hprev : pre ≠ [] → subI .i64 (pre.length : Int) 1 = (pre.length : Int) - 1 ∧ I32B (nthI l ((pre.length : Int) - 1)) ∧ clsR (nthI l ((pre.length : Int) - 1)) = prevOf pre := by
    intro hp;rcases List.eq_nil_or_concat pre with h | ⟨q, x, h⟩
    ·exact absurd h hp
    ·rw [List.concat_eq_append] at h
     have hx : nthI l ((pre.length : Int) - 1) = x := by
      rw [e, h]; exact nth_snoc q (r :: t) x
     refine ⟨subI_n (by omega) (by omega), ?_, ?_⟩
     ·rw [hx]; exact hl x (by rw [e, h]; simp)
     ·rw [hx, h, prevOf_snoc]
   have hi0 : eqI (pre.length : Int) 0 = decide (pre = []) := by
    rw [eqI_d];by_cases h : pre = []
    ·subst h; rfl
    ·have := List.length_pos_iff.2 h;rw [decide_eq_false h, decide_eq_false (by omega)]
   have hi1 : eqI (pre.length : Int) ((pre.length : Int) + t.length) = t.isEmpty := by
    rw [eqI_d];cases t with
    | nil => simp
    | cons a b => rw [decide_eq_false (by simp only [List.length_cons]; omega)]; rfl
   rw [hi0, hi1]
   have hcase : qaf (decide (pre = [])) true t.isEmpty = false → pre ≠ [] := fun q hp => by
    rw [decide_eq_true hp] at q;cases q
   rw [need_u (fun q _ _ => by
    have hp := hcase q;rw [(hprev hp).1];have := List.length_pos_iff.2 hp;exact ⟨by omega, by unfold qat; omega⟩), need_u (fun q _ _ => by
    have hp := hcase q;rw [(hprev hp).1, class_d' (hprev hp).2.1];rfl)]
   have hcond : qaf (eqI c 0) true (qaf (eqI c 3) (qaf (qaf (decide (pre = [])) true t.isEmpty) true (eqI ((ga1 (nthI l (subI .i64 (pre.length : Int) 1))).getD dflt) 3)) false) =
     !(decide (c ≠ 0) && !(decide (c = 3) && (decide (prevOf pre = 3) || t.isEmpty))) := by
    rw [qaj, qai, qaj, qaj, eqI_d, eqI_d];by_cases hp : pre = []
    ·subst hp;have : prevOf [] = 3 := rfl;rw [this];by_cases h0 : c = 0 <;> by_cases h3 : c = 3 <;> simp [h0, h3]
    ·obtain ⟨p1, p2, p3⟩ := hprev hp;rw [p1, class_d' p2, p3, decide_eq_false hp];simp only [qax, eqI_d];by_cases h0 : c = 0 <;> by_cases h3 : c = 3 <;> by_cases hq : prevOf pre = 3 <;> cases t.isEmpty <;> simp [h0, h3, hq]
   rw [hcond];cases hk : (decide (c ≠ 0) && !(decide (c = 3) && (decide (prevOf pre = 3) || t.isEmpty))) with
   | false => rfl
   | true =>
     simp only [Bool.not_true, cond_false, Bool.true_and];exact ih
theorem good_d {s : ByteArray} (hs : s.size ≤ 1000) : gat s = some (goodB (scan s 0)) := by
 obtain ⟨l, ok, h1, h2⟩ := runes_d (s := s) (by omega);have hsl := scan_len s 0;unfold gat;rw [h1];simp only [Le];rcases h2 with ⟨rfl, rfl⟩ | ⟨rfl, rfl, h⟩
 ·have hl : ∀ r ∈ scan s 0, I32B r := fun r hr => by
   have := scan_rng s 0 r hr;exact ⟨by omega, by omega⟩
  unfold goodB;by_cases h1 : 1 ≤ (scan s 0).length
  ·have e1 : ltI (qat (scan s 0)) 1 = false := ltI_f (by unfold qat; omega);rw [e1, decide_eq_true h1];by_cases h2 : (scan s 0).length ≤ 16
   ·have e2 : ltI 16 (qat (scan s 0)) = false := ltI_f (by unfold qat; omega);rw [e2, decide_eq_true h2];have := good_loop (scan s 0) true hl (by omega) (scan s 0) [] rfl;simp only [List.length_nil] at this;simp only [notB_d, Bool.not_true, qaf, cond_false];rw [show (0 : Int) = ((0 : Nat) : Int) from rfl, this];show _ = some (okFrom (prevOf []) (scan s 0));cases okFrom (prevOf []) (scan s 0) <;> rfl
   ·have e2 : ltI 16 (qat (scan s 0)) = true := ltI_t (by unfold qat; omega);rw [e2, decide_eq_false h2];rfl
  ·have e1 : ltI (qat (scan s 0)) 1 = true := ltI_t (by unfold qat; omega);rw [e1, decide_eq_false h1];rfl
 ·have : goodB (scan s 0) = false := by
   unfold goodB;rw [okFrom_bad _ 3 h]; simp
  rw [this];rfl
end Go.Proofs
