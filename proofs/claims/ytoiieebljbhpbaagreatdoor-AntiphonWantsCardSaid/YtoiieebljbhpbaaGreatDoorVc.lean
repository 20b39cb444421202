import Derived.Test.YtoiieebljbhpbaaGreatDoorNq
import Derived.Test.YtoiieebljbhpbaaGreatDoorM08
import Derived.Test.YtoiieebljbhpbaaGreatDoorM20
import Derived.Test.YtoiieebljbhpbaaGreatDoorM04
namespace Go.Proofs
open Go.Ab
theorem loop_congr {S T : Type} {f g : S → Option (Fl S T)} (I : S → Prop) (h : ∀ s, I s → f s = g s ∧ ∀ s', f s = some (.go s') → I s') (s : S) (hs : I s) : loopF f s = loopF g s := by
 have key : ∀ (f g : S → Option (Fl S T)), (∀ s, I s → f s = g s ∧ ∀ s', f s = some (.go s') → I s') → ∀ (n : Nat) (s : S) (t : T), I s → iterF f n s = some t → iterF g n s = some t := by
  intro f g h n
  induction n with
  | zero => intro s t _ hn; cases hn
  | succ n ih =>
    intro s t hI hn;obtain ⟨h1, h2⟩ := h s hI;unfold iterF at hn ⊢;rw [← h1];cases hf : f s with
    | none => rw [hf] at hn; cases hn
    | some r =>
      rw [hf] at hn;cases r with
      | go s' => exact ih s' t (h2 s' hf) hn
      | out t' => exact hn
 apply Option.ext;intro t;constructor
 ·intro q;obtain ⟨n, hn⟩ := loopF_iff.1 q;exact loopF_iff.2 ⟨n, key f g h n s t hs hn⟩
 ·intro q;obtain ⟨n, hn⟩ := loopF_iff.1 q;exact loopF_iff.2 ⟨n, key g f (fun s hI => ⟨(h s hI).1.symm, fun s' e => (h s hI).2 s' (by rw [(h s hI).1]; exact e)⟩) n s t hs hn⟩
def hasL (k : Int) : List UInt8 :=
 if k = 1 then [114] else if k = 2 then [112] else if k = 3 then [112, 116, 115] else if k = 4 then [112, 116] else if k = 5 then [112, 111, 116, 108] else if k = 6 then [112, 111, 116] else if k = 7 then [112, 116, 98] else if k = 8 then [112, 111, 116, 98] else []
theorem has_d (k : Int) : gaj k = some (ofB (hasL k)) := by
 unfold gaj hasL;simp only [eqI_d];by_cases h1 : k = 1
 ·simp [h1]; rfl
 by_cases h2 : k = 2
 ·simp [h2]; rfl
 by_cases h3 : k = 3
 ·simp [h3]; rfl
 by_cases h4 : k = 4
 ·simp [h4]; rfl
 by_cases h5 : k = 5
 ·simp [h5]; rfl
 by_cases h6 : k = 6
 ·simp [h6]; rfl
 by_cases h7 : k = 7
 ·simp [h7]; rfl
 by_cases h8 : k = 8
 ·simp [h8]; rfl
 simp [h1, h2, h3, h4, h5, h6, h7, h8]; rfl
theorem part_loop (x : Int) (r : ByteArray) : ∀ (m pos : Nat), (restS r pos).length ≤ m → loopF (gF.loop1 x r) pos = some (if x ∈ scan r pos then .out true else .go ()) := by
 intro m
 induction m with
 | zero =>
   intro pos hm;have h : restS r pos = [] := List.eq_nil_of_length_eq_zero (by omega);rw [loopF_eq];simp [gF.loop1, nextB_f h, scan_f h]
 | succ m ih =>
   intro pos hm;by_cases h : restS r pos = []
   ·rw [loopF_eq];simp [gF.loop1, nextB_f h, scan_f h]
   have hst := step_gt r pos;have hl := qbd r pos;have hl' := qbd r (stepS r pos);have hpos := List.length_pos_iff.2 h;rw [loopF_eq, scan_t h];simp only [gF.loop1, nextB_t h, cond_true];by_cases he : runeS r pos = x
   ·rw [eqI_t he];simp [he]
   ·rw [eqI_f he];simp only [cond_false];rw [ih _ (by omega)]
    have : (x ∈ runeS r pos :: scan r (stepS r pos)) ↔ x ∈ scan r (stepS r pos) := by
     rw [List.mem_cons];exact ⟨fun q => q.resolve_left fun e => he e.symm, .inr⟩
    simp only [this]
theorem part_d (k x : Int) : gF k x = some (decide (x ∈ runesL (hasL k))) := by
 unfold gF;rw [has_d];simp only [Le];rw [part_loop x (ofB (hasL k)) (ofB (hasL k)).size 0 (by rw [qbd]; exact Nat.le_refl _)];have : scan (ofB (hasL k)) 0 = runesL (hasL k) := by unfold scan; rw [restS_0, ofB_b]
 rw [this];by_cases h : x ∈ runesL (hasL k) <;> simp [h]
theorem r1 : runesL (hasL 1) = [114] := by decide +kernel
theorem r2 : runesL (hasL 2) = [112] := by decide +kernel
theorem r3 : runesL (hasL 3) = [112, 116, 115] := by decide +kernel
theorem r4 : runesL (hasL 4) = [112, 116] := by decide +kernel
theorem r5 : runesL (hasL 5) = [112, 111, 116, 108] := by decide +kernel
theorem r6 : runesL (hasL 6) = [112, 111, 116] := by decide +kernel
theorem r7 : runesL (hasL 7) = [112, 116, 98] := by decide +kernel
theorem r8 : runesL (hasL 8) = [112, 111, 116, 98] := by decide +kernel
theorem sources_eq (c : Td) (hl : c.fa.length ≤ 1000000) : gf c = gv c := by
 unfold gf gv
 have inner : ∀ i : Int, 0 ≤ i → i < qat c.fa → loopF (gf.loop2 c i) 0 = loopF (gv.loop2 c i) 0 := by
  intro i h0 h1;refine loop_congr (fun j : Int => 0 ≤ j) (fun j hj => ?_) 0 (by omega);unfold gf.loop2 gv.loop2
  have hlen : qat (cutL c.fa 0 i) = i := by
   unfold qat cutL at *
   simp only [Int.toNat_zero, List.drop_zero, Nat.sub_zero, List.length_take];omega
  rw [hlen];by_cases h : j < i
  ·rw [ltI_t h, Lh (show InB _ _ from ⟨hj, h⟩), Lh (show InB _ _ from ⟨h0, h1⟩), Lh (show InB _ _ from ⟨hj, by omega⟩)]
   have hn : nthI (cutL c.fa 0 i) j = nthI c.fa j := by
    unfold nthI cutL;simp only [Int.toNat_zero, List.drop_zero, Nat.sub_zero];rw [List.getD_eq_getElem?_getD, List.getD_eq_getElem?_getD, List.getElem?_take_of_lt (by omega)]
   rw [hn];refine ⟨rfl, fun s' e => ?_⟩;simp only [cond_true] at e;cases he : eqI (nthI c.fa i) (nthI c.fa j) with
   | true => rw [he] at e; cases e
   | false =>
     rw [he] at e;simp only [cond_false, Option.some.injEq, Fl.go.injEq] at e;rw [← e, addI_n (by omega) (by unfold qat at h1; omega)];omega
  ·rw [ltI_f h];exact ⟨rfl, fun s' e => by cases e⟩
 have outer : loopF (gf.loop1 c) 0 = loopF (gv.loop1 c) 0 := by
  refine loop_congr (fun i : Int => 0 ≤ i) (fun i hi => ?_) 0 (by omega);unfold gf.loop1 gv.loop1;by_cases h : i < qat c.fa
  ·rw [ltI_t h, Lh (show InB _ _ from ⟨hi, h⟩), Lh (show CutB _ _ _ from ⟨by omega, hi, by omega⟩), inner i hi h];refine ⟨rfl, fun s' e => ?_⟩;simp only [cond_true] at e;cases hl : loopF (gv.loop2 c i) 0 with
   | none => rw [hl] at e; cases e
   | some f =>
     rw [hl] at e;cases f with
     | go v =>
       simp only [Le, qal, Option.some.injEq, Fl.go.injEq] at e;rw [← e, addI_n (by omega) (by unfold qat at h; omega)];omega
     | out x =>
       simp only [Le, flC_out, Option.some.injEq] at e;subst e;exfalso
       have : ∀ t, loopF (gv.loop2 c i) 0 = some t → (∃ v, t = .go v) ∨ ∃ n, t = .out (.out (.out n)) := by
        obtain ⟨t, h1, h2⟩ := loop_ends (body := gv.loop2 c i) (fun j : Int => 0 ≤ j ∧ j ≤ i) (fun t => (∃ v, t = .go v) ∨ ∃ n, t = .out (.out (.out n))) (fun j => (i - j).toNat) (fun j hj => by
         unfold gv.loop2;by_cases q : j < i
         ·rw [ltI_t q, Lh (show InB _ _ from ⟨hi, h⟩), Lh (show InB _ _ from ⟨hj.1, by omega⟩)];simp only [cond_true];cases eqI (nthI c.fa i) (nthI c.fa j) with
          | true => exact .inr ⟨_, rfl⟩
          | false =>
            simp only [cond_false];rw [addI_n (by omega) (by unfold qat at h; omega)];exact ⟨⟨by omega, by omega⟩, by show (i - (j + 1)).toNat < (i - j).toNat; omega⟩
         ·rw [ltI_f q];exact .inl ⟨_, rfl⟩) 0 ⟨by omega, by omega⟩
        intro t' ht';rw [h1] at ht';cases ht';exact h2
       rcases this _ hl with ⟨v, q⟩ | ⟨n, q⟩ <;> cases q
  ·rw [ltI_f h];exact ⟨rfl, fun s' e => by cases e⟩
 rw [outer]
theorem sources_some (c : Td) (hl : c.fa.length ≤ 1000000) : ∃ v, gv c = some v := by
 unfold gv
 have inner : ∀ i : Int, 0 ≤ i → i < qat c.fa → ∃ t, loopF (gv.loop2 c i) 0 = some t ∧ ((∃ v, t = .go v) ∨ ∃ n, t = .out (.out (.out n))) := by
  intro i hi h
  exact loop_ends (body := gv.loop2 c i) (fun j : Int => 0 ≤ j ∧ j ≤ i) (fun t => (∃ v, t = .go v) ∨ ∃ n, t = .out (.out (.out n))) (fun j => (i - j).toNat) (fun j hj => by
   unfold gv.loop2;by_cases q : j < i
   ·rw [ltI_t q, Lh (show InB _ _ from ⟨hi, h⟩), Lh (show InB _ _ from ⟨hj.1, by omega⟩)];simp only [cond_true];cases eqI (nthI c.fa i) (nthI c.fa j) with
    | true => exact .inr ⟨_, rfl⟩
    | false =>
      simp only [cond_false];rw [addI_n (by omega) (by unfold qat at h; omega)];exact ⟨⟨by omega, by omega⟩, by show (i - (j + 1)).toNat < (i - j).toNat; omega⟩
   ·rw [ltI_f q];exact .inl ⟨_, rfl⟩) 0 ⟨by omega, by omega⟩
 have outer : ∃ t, loopF (gv.loop1 c) 0 = some t ∧ True := by
  refine loop_ends (fun i : Int => 0 ≤ i ∧ i ≤ qat c.fa) (fun _ => True) (fun i => (qat c.fa - i).toNat) (fun i hi => ?_) 0 ⟨by omega, by unfold qat; omega⟩;unfold gv.loop1;by_cases h : i < qat c.fa
  ·obtain ⟨t, h1, h2⟩ := inner i hi.1 h;rw [ltI_t h, h1];simp only [cond_true, Le];rcases h2 with ⟨v, rfl⟩ | ⟨n, rfl⟩
   ·simp only [qal];rw [addI_n (by omega) (by unfold qat at h; omega)];exact ⟨⟨by omega, by omega⟩, by show (qat c.fa - (i + 1)).toNat < (qat c.fa - i).toNat; omega⟩
   ·exact trivial
  ·rw [ltI_f h];exact trivial
 obtain ⟨t, h1, _⟩ := outer;rw [h1];cases qaf (qaf (ltI (qat c.fa) 1) true (ltI 3 (qat c.fa))) true (qaf (ltI 1 (qat c.fa)) (notB c.fq) false) with
 | true => exact ⟨_, rfl⟩
 | false =>
   cases t with
   | go v => exact ⟨_, rfl⟩
   | out x => exact ⟨_, rfl⟩
theorem neS_cat (a b : ByteArray) : neS (catS a b) ⟨#[]⟩ = (neS a ⟨#[]⟩ || neS b ⟨#[]⟩) := by
 simp only [neS_b, eqS_b, catS_b, nil_ofB, ofB_b];cases qar a <;> cases qar b <;> simp
theorem label_eq {s : ByteArray} (hs : s.size ≤ 1000) : gE s = some (if goodB (scan s 0) = true then 0 else 6) ∧ gat s = some (goodB (scan s 0)) :=
 ⟨check_d (by omega), good_d hs⟩
theorem le4 (x : Int) : leqI 4 x = ltI 3 x := by rw [leI_d, ltI_d]; exact decide_eq_decide.2 (by omega)
theorem le3 (x : Int) : leqI 3 x = ltI 2 x := by rw [leI_d, ltI_d]; exact decide_eq_decide.2 (by omega)
theorem check_eq (c : Td) (hr : c.fm.size ≤ 1000) (hn : c.fp.size ≤ 1000) (hl : c.fa.length ≤ 1000000) : gO c = gaF c := by
 obtain ⟨k, room, name, p, o, t, l, on, v, ss⟩ := c;simp only at hr hn hl;obtain ⟨a1, a2⟩ := label_eq hr;obtain ⟨b1, b2⟩ := label_eq hn;have hs := sources_eq (Td.mk k room name p o t l on v ss) hl;unfold gO gaF gz;simp only [has_d, part_d, Le, a1, a2, b1, b2, qax, hs, le4, le3, neS_cat];by_cases hk : k < 1 ∨ 8 < k
 ·have hl : hasL k = [] := by
   unfold hasL;rw [if_neg (by omega), if_neg (by omega), if_neg (by omega), if_neg (by omega), if_neg (by omega), if_neg (by omega), if_neg (by omega), if_neg (by omega)]
  have e1 : qaf (ltI k 1) true (ltI 8 k) = true := by
   rw [qaj, ltI_d, ltI_d];rcases hk with h | h <;> simp [h]
  rw [hl, e1];simp only [eqS_ofB, List.isEmpty_nil, cond_true]
 ·have : k = 1 ∨ k = 2 ∨ k = 3 ∨ k = 4 ∨ k = 5 ∨ k = 6 ∨ k = 7 ∨ k = 8 := by omega
  have hg : ∀ g : Bool, neI (if g = true then 0 else 6) 0 = notB g := fun g => by cases g <;> rfl
  simp only [hg];generalize goodB (scan room 0) = g1;generalize goodB (scan name 0) = g2;generalize gv _ = S;generalize neS room ⟨#[]⟩ = q1;generalize neS name ⟨#[]⟩ = q2;have hc : ∀ x : ByteArray, CatB room name := fun _ => by unfold CatB; omega
  have hcat : CatB room name := hc room
  rcases this with h | h | h | h | h | h | h | h <;> subst h <;> simp only [r1, r2, r3, r4, r5, r6, r7, r8] <;>
   simp [gai, ga0, gaX, ga5, ga2, need, Under, hcat, eqI_d, neI_d, ltI_d, leI_d, notB_d, hasL, eqS_ofB, qaf]
  all_goals
   generalize decide (p = 0) = A1;generalize decide (o = 0) = A2;generalize decide (t = 0) = A3;generalize decide (l = 0) = A4;generalize decide (0 < qat ss) = A5;cases A1 <;> cases A2 <;> cases A3 <;> cases A4 <;> cases A5 <;> cases on <;> cases v <;> cases q1 <;> cases q2 <;> rfl
def noS : ByteArray := ⟨#[]⟩
inductive Valid : Td → Prop
 | join (r n : ByteArray) (hr : goodB (scan r 0) = true) (hn : goodB (scan n 0) = true) : Valid (.mk 1 r n 0 0 0 0 false false [])
 | leave (p : Int) (hp : 0 ≤ p ∧ p ≤ 65535) : Valid (.mk 2 noS noS p 0 0 0 false false [])
 | publish (p t : Int) (v : Bool) (ss : List Int) (hp : 0 ≤ p ∧ p ≤ 65535) (ht : 0 ≤ t ∧ t ≤ 3) (hs : 1 ≤ ss.length ∧ ss.length ≤ 3) : Valid (.mk 3 noS noS p 0 t 0 false v ss)
 | unpublish (p t : Int) (hp : 0 ≤ p ∧ p ≤ 65535) (ht : 0 ≤ t ∧ t ≤ 3) : Valid (.mk 4 noS noS p 0 t 0 false false [])
 | subscribe (p o t l : Int) (hp : 0 ≤ p ∧ p ≤ 65535) (ho : 0 ≤ o ∧ o ≤ 65535) (ht : 0 ≤ t ∧ t ≤ 3) (hl : 0 ≤ l ∧ l ≤ 2) : Valid (.mk 5 noS noS p o t l false false [])
 | unsubscribe (p o t : Int) (hp : 0 ≤ p ∧ p ≤ 65535) (ho : 0 ≤ o ∧ o ≤ 65535) (ht : 0 ≤ t ∧ t ≤ 3) : Valid (.mk 6 noS noS p o t 0 false false [])
 | mute (p t : Int) (b : Bool) (hp : 0 ≤ p ∧ p ≤ 65535) (ht : 0 ≤ t ∧ t ≤ 3) : Valid (.mk 7 noS noS p 0 t 0 b false [])
 | pause (p o t : Int) (b : Bool) (hp : 0 ≤ p ∧ p ≤ 65535) (ho : 0 ≤ o ∧ o ≤ 65535) (ht : 0 ≤ t ∧ t ≤ 3) : Valid (.mk 8 noS noS p o t 0 b false [])
theorem neS_nil (s : ByteArray) : neS s ⟨#[]⟩ = decide (s ≠ noS) := by
 rw [neS_b];by_cases h : s = noS
 ·subst h;rw [show eqS noS ⟨#[]⟩ = true from (eqS_iff _ _).2 rfl];simp
 ·have : eqS s ⟨#[]⟩ = false := by
   cases e : eqS s ⟨#[]⟩ with
   | false => rfl
   | true => exact absurd ((eqS_iff _ _).1 e) h
  rw [this];simp [h]
theorem sources_len {c : Td} (h : gv c = some 0) : 1 ≤ c.fa.length ∧ c.fa.length ≤ 3 := by
 unfold gv at h
 have e : qaf (qaf (ltI (qat c.fa) 1) true (ltI 3 (qat c.fa))) true (qaf (ltI 1 (qat c.fa)) (notB c.fq) false) = false := by
  cases q : qaf (qaf (ltI (qat c.fa) 1) true (ltI 3 (qat c.fa))) true (qaf (ltI 1 (qat c.fa)) (notB c.fq) false) with
  | false => rfl
  | true => rw [q] at h; cases h
 rw [qaj, qaj, ltI_d, ltI_d] at e;simp only [Bool.or_eq_false_iff, decide_eq_false_iff_not] at e;have := e.1;unfold qat at this;omega
theorem nilL {ss : List Int} (h : qat ss ≤ 0) : ss = [] := List.eq_nil_of_length_eq_zero (by unfold qat at h; omega)
theorem check_some (c : Td) (hr : c.fm.size ≤ 1000) (hn : c.fp.size ≤ 1000) (hl : c.fa.length ≤ 1000000) : ∃ v, gaF c = some v ∧ (v = 0 → Valid c) := by
 obtain ⟨k, room, name, p, o, t, l, on, v, ss⟩ := c;simp only at hr hn hl;obtain ⟨S, hS⟩ := sources_some (Td.mk k room name p o t l on v ss) hl;have hlen := sources_len (c := Td.mk k room name p o t l on v ss);rw [hS] at hlen;unfold gaF;simp only [hS, Le, (label_eq hr).2, (label_eq hn).2, qax, neS_nil];by_cases hk : k < 1 ∨ 8 < k
 ·have e1 : qaf (ltI k 1) true (ltI 8 k) = true := by
   rw [qaj, ltI_d, ltI_d];rcases hk with h | h <;> simp [h]
  rw [e1];exact ⟨3, rfl, by omega⟩
 ·have : k = 1 ∨ k = 2 ∨ k = 3 ∨ k = 4 ∨ k = 5 ∨ k = 6 ∨ k = 7 ∨ k = 8 := by omega
  generalize hg1 : goodB (scan room 0) = g1 at *
  generalize hg2 : goodB (scan name 0) = g2 at *
  have fin : ∀ (b1 b2 b3 b4 b5 : Bool), ((b1 = false ∧ b2 = false ∧ b3 = false ∧ b4 = false ∧ (b5 = true → S = 0)) → Valid (Td.mk k room name p o t l on v ss)) →
    ∃ w, (bif b1 then some 2 else bif b2 then some 2 else bif b3 then some 5 else bif b4 then some 6 else bif b5 then some S else some 0) = some w ∧ (w = 0 → Valid (Td.mk k room name p o t l on v ss)) := by
   intro b1 b2 b3 b4 b5 hz;cases b1
   case true => exact ⟨_, rfl, by omega⟩
   cases b2
   case true => exact ⟨_, rfl, by omega⟩
   cases b3
   case true => exact ⟨_, rfl, by omega⟩
   cases b4
   case true => exact ⟨_, rfl, by omega⟩
   cases b5
   case true => exact ⟨_, rfl, fun h => hz ⟨rfl, rfl, rfl, rfl, fun _ => h⟩⟩
   case false => exact ⟨_, rfl, fun _ => hz ⟨rfl, rfl, rfl, rfl, fun h => by cases h⟩⟩
  have e0 : qaf (ltI k 1) true (ltI 8 k) = false := by
   rw [qaj, ltI_f (by omega), ltI_f (by omega)]; rfl
  rw [e0];simp only [cond_false, ga0, gaX, ga5, ga2, Le, qax, need_s, need_ss];refine fin _ _ _ _ _ ?_;rintro ⟨h1, h2, h3, h4, h5⟩
  rcases this with h | h | h | h | h | h | h | h <;> subst h <;>
   simp [eqI_d, neI_d, leI_d, ltI_d, qai, qaj, notB_d] at h1 h2 h3 h4 h5 hlen
  all_goals obtain ⟨⟨⟨⟨⟨⟨p0, p1⟩, o0, o1⟩, t0⟩, t1⟩, l0⟩, l1⟩ := h3
  ·obtain ⟨⟨rfl, rfl⟩, rfl⟩ := h1;obtain ⟨⟨rfl, rfl⟩, rfl, hs⟩ := h2;cases nilL hs;exact Valid.join room name (hg1.trans h4.1) (hg2.trans h4.2)
  ·obtain ⟨⟨⟨rfl, rfl⟩, rfl⟩, rfl⟩ := h1;obtain ⟨⟨rfl, rfl⟩, rfl, hs⟩ := h2;cases nilL hs;exact Valid.leave p ⟨p0, p1⟩
  ·obtain ⟨⟨rfl, rfl⟩, rfl⟩ := h1;obtain ⟨rfl, rfl⟩ := h2;exact Valid.publish p t v ss ⟨p0, p1⟩ ⟨t0, t1⟩ (hlen h5)
  ·obtain ⟨⟨rfl, rfl⟩, rfl⟩ := h1;obtain ⟨⟨rfl, rfl⟩, rfl, hs⟩ := h2;cases nilL hs;exact Valid.unpublish p t ⟨p0, p1⟩ ⟨t0, t1⟩
  ·obtain ⟨rfl, rfl⟩ := h1;obtain ⟨rfl, rfl, hs⟩ := h2;cases nilL hs;exact Valid.subscribe p o t l ⟨p0, p1⟩ ⟨o0, o1⟩ ⟨t0, t1⟩ ⟨l0, l1⟩
  ·obtain ⟨rfl, rfl⟩ := h1;obtain ⟨⟨rfl, rfl⟩, rfl, hs⟩ := h2;cases nilL hs;exact Valid.unsubscribe p o t ⟨p0, p1⟩ ⟨o0, o1⟩ ⟨t0, t1⟩
  ·obtain ⟨⟨rfl, rfl⟩, rfl⟩ := h1;obtain ⟨rfl, rfl, hs⟩ := h2;cases nilL hs;exact Valid.mute p t on ⟨p0, p1⟩ ⟨t0, t1⟩
  ·obtain ⟨rfl, rfl⟩ := h1;obtain ⟨rfl, rfl, hs⟩ := h2;cases nilL hs;exact Valid.pause p o t on ⟨p0, p1⟩ ⟨o0, o1⟩ ⟨t0, t1⟩
end Go.Proofs
