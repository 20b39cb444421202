import Derived.Test.YtpamnignoocogaaGreatDoorM15
import Derived.Test.YtpamnignoocogaaGreatDoorM13
import Derived.Test.YtpamnignoocogaaGreatDoorM08
import Derived.Test.YtpamnignoocogaaGreatDoorM17
import Derived.Test.YtpamnignoocogaaGreatDoorM06
section
namespace Go.Proofs
open Go.Ab
noncomputable def gF (x0 : Tb) : Option (Bool × Tb) :=
 ((gv x0)).bind fun r1 =>
 ((
  bif (ltI 1 r1.1) then (
   ((gq r1.2 2)).bind fun r2 =>
   some (.go r2)
  ) else (
    some (.go r1.2)
  )
  : Option (Fl Tb (Bool × Tb))).bind fun f => flC f fun (v1 : Tb) =>
  some ((eqI r1.1 1), v1)
 )
noncomputable def gg.loop1 (r11 : Int × Tb) (s1 : Int × List Int × Tb) : Option (Fl (Int × List Int × Tb) (Fl (List Int × Tb) (Ta × Bool × Tb))) :=
 bif (ltI s1.1 r11.1) then (
  ((gH s1.2.2)).bind fun r12 =>
  need (AppB (lenL s1.2.1) 1 4) <|
  some (.go ((addI .u8 s1.1 1), (appL s1.2.1 [r12.1]), r12.2))
 ) else (
   some (.out (.go (s1.2.1, s1.2.2)))
 )
noncomputable def gg (x0 : Ta) (k0 : Bool) (x1 : Tb) (x2 : Int) : Option (Ta × Bool × Tb) :=
 bif (eqI x2 114) then (
  ((gv x1)).bind fun r1 =>
  ((gr r1.2 (cvtI .i64 r1.1))).bind fun r2 =>
  ((gv r2.2)).bind fun r3 =>
  ((gr r3.2 (cvtI .i64 r3.1))).bind fun r4 =>
  some ((Ta.mk x0.fa r2.1 r4.1 x0.fd x0.fOf x0.fg x0.fh x0.fOn x0.ff x0.fb), k0, r4.2)
 ) else (
   bif (eqI x2 112) then (
    ((gG x1)).bind fun r5 =>
    some ((Ta.mk x0.fa x0.fc x0.fe (cvtI .i64 r5.1) x0.fOf x0.fg x0.fh x0.fOn x0.ff x0.fb), k0, r5.2)
   ) else (
     bif (eqI x2 111) then (
      ((gG x1)).bind fun r6 =>
      some ((Ta.mk x0.fa x0.fc x0.fe x0.fd (cvtI .i64 r6.1) x0.fg x0.fh x0.fOn x0.ff x0.fb), k0, r6.2)
     ) else (
       bif (eqI x2 116) then (
        ((gv x1)).bind fun r7 =>
        some ((Ta.mk x0.fa x0.fc x0.fe x0.fd x0.fOf (cvtI .i64 r7.1) x0.fh x0.fOn x0.ff x0.fb), k0, r7.2)
       ) else (
         bif (eqI x2 108) then (
          ((gv x1)).bind fun r8 =>
          some ((Ta.mk x0.fa x0.fc x0.fe x0.fd x0.fOf x0.fg (cvtI .i64 r8.1) x0.fOn x0.ff x0.fb), k0, r8.2)
         ) else (
           bif (eqI x2 98) then (
            ((gF x1)).bind fun r9 =>
            some ((Ta.mk x0.fa x0.fc x0.fe x0.fd x0.fOf x0.fg x0.fh r9.1 x0.ff x0.fb), k0, r9.2)
           ) else (
             bif (eqI x2 115) then (
              ((gF x1)).bind fun r10 =>
              ((gv r10.2)).bind fun r11 =>
              need (k0 = true) <|
              ((loopF (gg.loop1 r11) (0, x0.fb, r11.2)).bind fun f => flC f fun (v1 : List Int × Tb) =>
                some ((Ta.mk x0.fa x0.fc x0.fe x0.fd x0.fOf x0.fg x0.fh x0.fOn r10.1 v1.1), false, v1.2)
              )
             ) else (
               some (x0, k0, x1)
             )
           )
         )
       )
     )
   )
 )
noncomputable def gw.loop2 (r5 : ByteArray) (s2 : Tb × Int × ByteArray × ByteArray × Int × Int × Int × Int × Bool × Bool × Bool × List Int × Nat) : Option (Fl (Tb × Int × ByteArray × ByteArray × Int × Int × Int × Int × Bool × Bool × Bool × List Int × Nat) (Fl (Tb × Int × ByteArray × ByteArray × Int × Int × Int × Int × Bool × Bool × Bool × List Int) (Ta × Int))) :=
 bif (nextB r5 s2.2.2.2.2.2.2.2.2.2.2.2.2) then (
  ((gg (Ta.mk s2.2.1 s2.2.2.1 s2.2.2.2.1 s2.2.2.2.2.1 s2.2.2.2.2.2.1 s2.2.2.2.2.2.2.1 s2.2.2.2.2.2.2.2.1 s2.2.2.2.2.2.2.2.2.1 s2.2.2.2.2.2.2.2.2.2.1 s2.2.2.2.2.2.2.2.2.2.2.2.1) s2.2.2.2.2.2.2.2.2.2.2.1 s2.1 (runeS r5 s2.2.2.2.2.2.2.2.2.2.2.2.2))).bind fun r6 =>
  some (.go (r6.2.2, r6.1.fa, r6.1.fc, r6.1.fe, r6.1.fd, r6.1.fOf, r6.1.fg, r6.1.fh, r6.1.fOn, r6.1.ff, r6.2.1, r6.1.fb, (stepS r5 s2.2.2.2.2.2.2.2.2.2.2.2.2)))
 ) else (
   some (.out (.go (s2.1, s2.2.1, s2.2.2.1, s2.2.2.2.1, s2.2.2.2.2.1, s2.2.2.2.2.2.1, s2.2.2.2.2.2.2.1, s2.2.2.2.2.2.2.2.1, s2.2.2.2.2.2.2.2.2.1, s2.2.2.2.2.2.2.2.2.2.1, s2.2.2.2.2.2.2.2.2.2.2.1, s2.2.2.2.2.2.2.2.2.2.2.2.1)))
 )
noncomputable def gw (x0 : ByteArray) : Option (Ta × Int) :=
 ((gac x0)).bind fun r1 =>
 ((gv r1)).bind fun r2 =>
 ((
  ((gK r2.2)).bind fun r3 =>
  need (Under (eqI r3 0) true ((gO (cvtI .i64 r2.1)).isSome = true)) <|
  bif (pickB (eqI r3 0) (eqS ((gO (cvtI .i64 r2.1)).getD dflt) ⟨#[]⟩) false) then (
   ((gq r2.2 3)).bind fun r4 =>
   some (.go r4)
  ) else (
    some (.go r2.2)
  )
  : Option (Fl Tb (Ta × Int))).bind fun f => flC f fun (v1 : Tb) =>
  ((gO (cvtI .i64 r2.1))).bind fun r5 =>
  ((loopF (gw.loop2 r5) (v1, (cvtI .i64 r2.1), ⟨#[]⟩, ⟨#[]⟩, 0, 0, 0, 0, false, false, true, [], 0)).bind fun f => flC f fun (v2 : Tb × Int × ByteArray × ByteArray × Int × Int × Int × Int × Bool × Bool × Bool × List Int) =>
    ((gA v2.1)).bind fun r6 =>
    bif (neI r6.1 0) then (
     some ((Ta.mk 0 ⟨#[]⟩ ⟨#[]⟩ 0 0 0 0 false false []), r6.1)
    ) else (
      ((gt (Ta.mk v2.2.1 v2.2.2.1 v2.2.2.2.1 v2.2.2.2.2.1 v2.2.2.2.2.2.1 v2.2.2.2.2.2.2.1 v2.2.2.2.2.2.2.2.1 v2.2.2.2.2.2.2.2.2.1 v2.2.2.2.2.2.2.2.2.2.1 v2.2.2.2.2.2.2.2.2.2.2.2))).bind fun r7 =>
      bif (neI r7 0) then (
       some ((Ta.mk 0 ⟨#[]⟩ ⟨#[]⟩ 0 0 0 0 false false []), r7)
      ) else (
        some ((Ta.mk v2.2.1 v2.2.2.1 v2.2.2.2.1 v2.2.2.2.2.1 v2.2.2.2.2.2.1 v2.2.2.2.2.2.2.1 v2.2.2.2.2.2.2.2.1 v2.2.2.2.2.2.2.2.2.1 v2.2.2.2.2.2.2.2.2.2.1 v2.2.2.2.2.2.2.2.2.2.2.2), 0)
      )
    )
  )
 )
end Go.Proofs
end
section
namespace Go.Proofs
open Go.Ab
noncomputable def gL.loop1 (x0 : ByteArray) (s1 : List Int × Nat) : Option (Fl (List Int × Nat) (Fl (List Int) ByteArray)) :=
 bif (nextB x0 s1.2) then (
  need (I32B (lowerR (runeS x0 s1.2))) <|
  need (AppB (lenL s1.1) 4 1) <|
  some (.go ((appL s1.1 (runeZ (lowerR (runeS x0 s1.2)))), (stepS x0 s1.2)))
 ) else (
   some (.out (.go s1.1))
 )
noncomputable def gL (x0 : ByteArray) : Option ByteArray :=
 ((loopF (gL.loop1 x0) ([], 0)).bind fun f => flC f fun (v1 : List Int) =>
   need (TextB v1) <|
   some (strOfNums v1)
 )
noncomputable def gM.loop1 (x0 : ByteArray) (s1 : List Int × Nat) : Option (Fl (List Int × Nat) (Fl (List Int) ByteArray)) :=
 bif (nextB x0 s1.2) then (
  need (AppB (lenL s1.1) 1 4) <|
  some (.go ((appL s1.1 [(lowerR (runeS x0 s1.2))]), (stepS x0 s1.2)))
 ) else (
   some (.out (.go s1.1))
 )
noncomputable def gM (x0 : ByteArray) : Option ByteArray :=
 ((loopF (gM.loop1 x0) ([], 0)).bind fun f => flC f fun (v1 : List Int) =>
   some (runesBytes v1)
 )
noncomputable def gD.loop1 (x0 : List Tc) (s1 : Int × List ByteArray) : Option (Fl (Int × List ByteArray) (Fl (List ByteArray) (List ByteArray))) :=
 bif (ltI s1.1 (lenL x0)) then (
  need (InB s1.1 (lenL x0)) <|
  ((gw ((nthI x0 s1.1).fj))).bind fun r1 =>
  bif (pickB (pickB (eqI ((nthI x0 s1.1).fa) 2) (eqI r1.2 0) false) (eqI r1.1.fa 1) false) then (
   ((gL r1.1.fc)).bind fun r2 =>
   need (CatB r2 ⟨#[47]⟩) <|
   ((gL r1.1.fe)).bind fun r3 =>
   need (CatB (catS r2 ⟨#[47]⟩) r3) <|
   need (AppB (lenL s1.2) 1 16) <|
   some (.go ((addI .i64 s1.1 1), (appL s1.2 [(catS (catS r2 ⟨#[47]⟩) r3)])))
  ) else (
    some (.go ((addI .i64 s1.1 1), s1.2))
  )
 ) else (
   some (.out (.go s1.2))
 )
noncomputable def gD (x0 : List Tc) : Option (List ByteArray) :=
 ((loopF (gD.loop1 x0) (0, [])).bind fun f => flC f fun (v1 : List ByteArray) =>
   some v1
 )
end Go.Proofs
end
section
namespace Go.Proofs
open Go.Ab
theorem loop_congr {S T : Type} {f g : S → Option (Fl S T)} (I : S → Prop) (h : ∀ s, I s → f s = g s ∧ ∀ s', f s = some (.go s') → I s') (s : S) (hs : I s) : loopF f s = loopF g s := by
 have key : ∀ (f g : S → Option (Fl S T)), (∀ s, I s → f s = g s ∧ ∀ s', f s = some (.go s') → I s') → ∀ (n : Nat) (s : S) (t : T), I s → iterF f n s = some t → iterF g n s = some t := by
  intro f g h n
  induction n with
  | zero => intro s t _ hn; cases hn
  | succ n ih =>
    intro s t hI hn;obtain ⟨h1, h2⟩ := h s hI;unfold iterF at hn ⊢;rw [← h1];cases hf : f s with
    | none => rw [hf] at hn; cases hn
    | some r =>
      rw [hf] at hn;cases r with
      | go s' => exact ih s' t (h2 s' hf) hn
      | out t' => exact hn
 apply Option.ext;intro t;constructor
 ·intro q;obtain ⟨n, hn⟩ := loopF_iff.1 q;exact loopF_iff.2 ⟨n, key f g h n s t hs hn⟩
 ·intro q;obtain ⟨n, hn⟩ := loopF_iff.1 q;exact loopF_iff.2 ⟨n, key g f (fun s hI => ⟨(h s hI).1.symm, fun s' e => (h s hI).2 s' (by rw [(h s hI).1]; exact e)⟩) n s t hs hn⟩
def hasL (k : Int) : List UInt8 :=
 if k = 1 then [114] else if k = 2 then [112] else if k = 3 then [112, 116, 115] else if k = 4 then [112, 116] else if k = 5 then [112, 111, 116, 108] else if k = 6 then [112, 111, 116] else if k = 7 then [112, 116, 98] else if k = 8 then [112, 111, 116, 98] else []
theorem has_d (k : Int) : gO k = some (ofB (hasL k)) := by
 unfold gO hasL;simp only [eqI_d];by_cases h1 : k = 1
 ·simp [h1]; rfl
 by_cases h2 : k = 2
 ·simp [h2]; rfl
 by_cases h3 : k = 3
 ·simp [h3]; rfl
 by_cases h4 : k = 4
 ·simp [h4]; rfl
 by_cases h5 : k = 5
 ·simp [h5]; rfl
 by_cases h6 : k = 6
 ·simp [h6]; rfl
 by_cases h7 : k = 7
 ·simp [h7]; rfl
 by_cases h8 : k = 8
 ·simp [h8]; rfl
 simp [h1, h2, h3, h4, h5, h6, h7, h8]; rfl
theorem part_loop (x : Int) (r : ByteArray) : ∀ (m pos : Nat), (restS r pos).length ≤ m → loopF (gz.loop1 x r) pos = some (if x ∈ scan r pos then .out true else .go ()) := by
 intro m
 induction m with
 | zero =>
   intro pos hm;have h : restS r pos = [] := List.eq_nil_of_length_eq_zero (by omega);rw [loopF_eq];simp [gz.loop1, nextB_f h, scan_f h]
 | succ m ih =>
   intro pos hm;by_cases h : restS r pos = []
   ·rw [loopF_eq];simp [gz.loop1, nextB_f h, scan_f h]
   have hst := step_gt r pos;have hl := restS_len r pos;have hl' := restS_len r (stepS r pos);have hpos := List.length_pos_iff.2 h;rw [loopF_eq, scan_t h];simp only [gz.loop1, nextB_t h, cond_true];by_cases he : runeS r pos = x
   ·rw [eqI_t he];simp [he]
   ·rw [eqI_f he];simp only [cond_false];rw [ih _ (by omega)]
    have : (x ∈ runeS r pos :: scan r (stepS r pos)) ↔ x ∈ scan r (stepS r pos) := by
     rw [List.mem_cons];exact ⟨fun q => q.resolve_left fun e => he e.symm, .inr⟩
    simp only [this]
theorem part_d (k x : Int) : gz k x = some (decide (x ∈ runesL (hasL k))) := by
 unfold gz;rw [has_d];simp only [Lg];rw [part_loop x (ofB (hasL k)) (ofB (hasL k)).size 0 (by rw [restS_len]; exact Nat.le_refl _)];have : scan (ofB (hasL k)) 0 = runesL (hasL k) := by unfold scan; rw [restS_0, ofB_b]
 rw [this];by_cases h : x ∈ runesL (hasL k) <;> simp [h]
theorem r1 : runesL (hasL 1) = [114] := by decide +kernel
theorem r2 : runesL (hasL 2) = [112] := by decide +kernel
theorem r3 : runesL (hasL 3) = [112, 116, 115] := by decide +kernel
theorem r4 : runesL (hasL 4) = [112, 116] := by decide +kernel
theorem r5 : runesL (hasL 5) = [112, 111, 116, 108] := by decide +kernel
theorem r6 : runesL (hasL 6) = [112, 111, 116] := by decide +kernel
theorem r7 : runesL (hasL 7) = [112, 116, 98] := by decide +kernel
theorem r8 : runesL (hasL 8) = [112, 111, 116, 98] := by decide +kernel
theorem sources_eq (c : Ta) (hl : c.fb.length ≤ 1000000) : gc c = gT c := by
 unfold gc gT
 have inner : ∀ i : Int, 0 ≤ i → i < lenL c.fb → loopF (gc.loop2 c i) 0 = loopF (gT.loop2 c i) 0 := by
  intro i h0 h1;refine loop_congr (fun j : Int => 0 ≤ j) (fun j hj => ?_) 0 (by omega);unfold gc.loop2 gT.loop2
  have hlen : lenL (cutL c.fb 0 i) = i := by
   unfold lenL cutL at *
   simp only [Int.toNat_zero, List.drop_zero, Nat.sub_zero, List.length_take];omega
  rw [hlen];by_cases h : j < i
  ·rw [ltI_t h, Lf (show InB _ _ from ⟨hj, h⟩), Lf (show InB _ _ from ⟨h0, h1⟩), Lf (show InB _ _ from ⟨hj, by omega⟩)]
   have hn : nthI (cutL c.fb 0 i) j = nthI c.fb j := by
    unfold nthI cutL;simp only [Int.toNat_zero, List.drop_zero, Nat.sub_zero];rw [List.getD_eq_getElem?_getD, List.getD_eq_getElem?_getD, List.getElem?_take_of_lt (by omega)]
   rw [hn];refine ⟨rfl, fun s' e => ?_⟩;simp only [cond_true] at e;cases he : eqI (nthI c.fb i) (nthI c.fb j) with
   | true => rw [he] at e; cases e
   | false =>
     rw [he] at e;simp only [cond_false, Option.some.injEq, Fl.go.injEq] at e;rw [← e, addI_n (by omega) (by unfold lenL at h1; omega)];omega
  ·rw [ltI_f h];exact ⟨rfl, fun s' e => by cases e⟩
 have outer : loopF (gc.loop1 c) 0 = loopF (gT.loop1 c) 0 := by
  refine loop_congr (fun i : Int => 0 ≤ i) (fun i hi => ?_) 0 (by omega);unfold gc.loop1 gT.loop1;by_cases h : i < lenL c.fb
  ·rw [ltI_t h, Lf (show InB _ _ from ⟨hi, h⟩), Lf (show CutB _ _ _ from ⟨by omega, hi, by omega⟩), inner i hi h];refine ⟨rfl, fun s' e => ?_⟩;simp only [cond_true] at e;cases hl : loopF (gT.loop2 c i) 0 with
   | none => rw [hl] at e; cases e
   | some f =>
     rw [hl] at e;cases f with
     | go v =>
       simp only [Lg, flC_go, Option.some.injEq, Fl.go.injEq] at e;rw [← e, addI_n (by omega) (by unfold lenL at h; omega)];omega
     | out x =>
       simp only [Lg, flC_out, Option.some.injEq] at e;subst e;exfalso
       have : ∀ t, loopF (gT.loop2 c i) 0 = some t → (∃ v, t = .go v) ∨ ∃ n, t = .out (.out (.out n)) := by
        obtain ⟨t, h1, h2⟩ := loop_ends (body := gT.loop2 c i) (fun j : Int => 0 ≤ j ∧ j ≤ i) (fun t => (∃ v, t = .go v) ∨ ∃ n, t = .out (.out (.out n))) (fun j => (i - j).toNat) (fun j hj => by
         unfold gT.loop2;by_cases q : j < i
         ·rw [ltI_t q, Lf (show InB _ _ from ⟨hi, h⟩), Lf (show InB _ _ from ⟨hj.1, by omega⟩)];simp only [cond_true];cases eqI (nthI c.fb i) (nthI c.fb j) with
          | true => exact .inr ⟨_, rfl⟩
          | false =>
            simp only [cond_false];rw [addI_n (by omega) (by unfold lenL at h; omega)];exact ⟨⟨by omega, by omega⟩, by show (i - (j + 1)).toNat < (i - j).toNat; omega⟩
         ·rw [ltI_f q];exact .inl ⟨_, rfl⟩) 0 ⟨by omega, by omega⟩
        intro t' ht';rw [h1] at ht';cases ht';exact h2
       rcases this _ hl with ⟨v, q⟩ | ⟨n, q⟩ <;> cases q
  ·rw [ltI_f h];exact ⟨rfl, fun s' e => by cases e⟩
 rw [outer]
theorem neS_cat (a b : ByteArray) : neS (catS a b) ⟨#[]⟩ = (neS a ⟨#[]⟩ || neS b ⟨#[]⟩) := by
 simp only [neS_b, eqS_b, catS_b, nil_ofB, ofB_b];cases bytesOf a <;> cases bytesOf b <;> simp
theorem label_eq {s : ByteArray} (hs : s.size ≤ 1000) : gC s = some (if goodB (scan s 0) = true then 0 else 6) ∧ gE s = some (goodB (scan s 0)) :=
 ⟨check_d (by omega), good_d hs⟩
theorem le4 (x : Int) : leqI 4 x = ltI 3 x := by rw [leI_d, ltI_d]; exact decide_eq_decide.2 (by omega)
theorem le_3 (x : Int) : leqI 3 x = ltI 2 x := by rw [leI_d, ltI_d]; exact decide_eq_decide.2 (by omega)
theorem check_eq (c : Ta) (hr : c.fc.size ≤ 1000) (hn : c.fe.size ≤ 1000) (hl : c.fb.length ≤ 1000000) : gt c = gae c := by
 obtain ⟨k, room, name, p, o, t, l, on, v, ss⟩ := c;simp only at hr hn hl;obtain ⟨a1, a2⟩ := label_eq hr;obtain ⟨b1, b2⟩ := label_eq hn;have hs := sources_eq (Ta.mk k room name p o t l on v ss) hl;unfold gt gae gu;simp only [has_d, part_d, Lg, a1, a2, b1, b2, getD_so, hs, le4, le_3, neS_cat];by_cases hk : k < 1 ∨ 8 < k
 ·have hl : hasL k = [] := by
   unfold hasL;rw [if_neg (by omega), if_neg (by omega), if_neg (by omega), if_neg (by omega), if_neg (by omega), if_neg (by omega), if_neg (by omega), if_neg (by omega)]
  have e1 : pickB (ltI k 1) true (ltI 8 k) = true := by
   rw [pickB_or, ltI_d, ltI_d];rcases hk with h | h <;> simp [h]
  rw [hl, e1];simp only [eqS_ofB, List.isEmpty_nil, cond_true]
 ·have : k = 1 ∨ k = 2 ∨ k = 3 ∨ k = 4 ∨ k = 5 ∨ k = 6 ∨ k = 7 ∨ k = 8 := by omega
  have hg : ∀ g : Bool, neI (if g = true then 0 else 6) 0 = notB g := fun g => by cases g <;> rfl
  simp only [hg];generalize goodB (scan room 0) = g1;generalize goodB (scan name 0) = g2;generalize gT _ = S;generalize neS room ⟨#[]⟩ = q1;generalize neS name ⟨#[]⟩ = q2;have hc : ∀ x : ByteArray, CatB room name := fun _ => by unfold CatB; omega
  have hcat : CatB room name := hc room
  rcases this with h | h | h | h | h | h | h | h <;> subst h <;> simp only [r1, r2, r3, r4, r5, r6, r7, r8] <;>
   simp [gU, gal, gai, gao, gaj, need, Under, hcat, eqI_d, neI_d, ltI_d, leI_d, notB_d, hasL, eqS_ofB, pickB]
  all_goals
   generalize decide (p = 0) = A1;generalize decide (o = 0) = A2;generalize decide (t = 0) = A3;generalize decide (l = 0) = A4;generalize decide (0 < lenL ss) = A5;cases A1 <;> cases A2 <;> cases A3 <;> cases A4 <;> cases A5 <;> cases on <;> cases v <;> cases q1 <;> cases q2 <;> rfl
def noS : ByteArray := ⟨#[]⟩
inductive Valid : Ta → Prop
 | join (r n : ByteArray) (hr : goodB (scan r 0) = true) (hn : goodB (scan n 0) = true) : Valid (.mk 1 r n 0 0 0 0 false false [])
 | leave (p : Int) (hp : 0 ≤ p ∧ p ≤ 65535) : Valid (.mk 2 noS noS p 0 0 0 false false [])
 | publish (p t : Int) (v : Bool) (ss : List Int) (hp : 0 ≤ p ∧ p ≤ 65535) (ht : 0 ≤ t ∧ t ≤ 3) (hs : 1 ≤ ss.length ∧ ss.length ≤ 3) : Valid (.mk 3 noS noS p 0 t 0 false v ss)
 | unpublish (p t : Int) (hp : 0 ≤ p ∧ p ≤ 65535) (ht : 0 ≤ t ∧ t ≤ 3) : Valid (.mk 4 noS noS p 0 t 0 false false [])
 | subscribe (p o t l : Int) (hp : 0 ≤ p ∧ p ≤ 65535) (ho : 0 ≤ o ∧ o ≤ 65535) (ht : 0 ≤ t ∧ t ≤ 3) (hl : 0 ≤ l ∧ l ≤ 2) : Valid (.mk 5 noS noS p o t l false false [])
 | unsubscribe (p o t : Int) (hp : 0 ≤ p ∧ p ≤ 65535) (ho : 0 ≤ o ∧ o ≤ 65535) (ht : 0 ≤ t ∧ t ≤ 3) : Valid (.mk 6 noS noS p o t 0 false false [])
 | mute (p t : Int) (b : Bool) (hp : 0 ≤ p ∧ p ≤ 65535) (ht : 0 ≤ t ∧ t ≤ 3) : Valid (.mk 7 noS noS p 0 t 0 b false [])
 | pause (p o t : Int) (b : Bool) (hp : 0 ≤ p ∧ p ≤ 65535) (ho : 0 ≤ o ∧ o ≤ 65535) (ht : 0 ≤ t ∧ t ≤ 3) : Valid (.mk 8 noS noS p o t 0 b false [])
end Go.Proofs
end
section
namespace Go.Proofs
open Go.Ab
noncomputable def gaE (x0 : Tc) (x1 : Td) : Option Bool :=
 some (pickB (pickB (pickB (eqI x0.fa x1.fa) (eqI x0.fd x1.fd) false) (eqI x0.fN x1.fN) false) (eqS x0.fj x1.fj) false)
noncomputable def gap.loop2 (r2 : List Tc × Int × Int) (v1 : List ByteArray) (s2 : Int) : Option (Fl Int (Fl Unit Bool)) :=
 bif (ltI s2 (lenL v1)) then (
  need (InB s2 (lenL v1)) <|
  ((gRef27ParseLine (nthI v1 s2))).bind fun r4 =>
  bif (neI r4.2 0) then (
   need ((neI r2.2.2 0) = true) <|
   some (.out (.out (pickB (eqI r2.2.1 s2) (eqI r2.2.2 r4.2) false)))
  ) else (
    need (Under (leqI (lenL r2.1) s2) false (Under (eqI r2.2.2 0) true (InB s2 (lenL r2.1)))) <|
    need (Under (leqI (lenL r2.1) s2) false (Under (eqI r2.2.2 0) true ((gaE (Tc.mk ((nthI r2.1 s2).fa) ((nthI r2.1 s2).fd) ((nthI r2.1 s2).fj) ((nthI r2.1 s2).fN)) r4.1).isSome = true))) <|
    bif (pickB (eqI r2.2.2 0) (pickB (leqI (lenL r2.1) s2) true (notB ((gaE (Tc.mk ((nthI r2.1 s2).fa) ((nthI r2.1 s2).fd) ((nthI r2.1 s2).fj) ((nthI r2.1 s2).fN)) r4.1).getD dflt))) false) then (
     some (.out (.out false))
    ) else (
      some (.go (addI .i64 s2 1))
    )
  )
 ) else (
   some (.out (.go ()))
 )
noncomputable def gap (x0 : ByteArray) : Option Bool :=
 ((gX x0 400)).bind fun r1 =>
 ((gy r1)).bind fun r2 =>
 need (lenS r1 ≤ 400) <|
 ((
  need (InB (subI .i64 (lenL (splitT r1 10)) 1) (lenL (splitT r1 10))) <|
  bif (eqS (nthI (splitT r1 10) (subI .i64 (lenL (splitT r1 10)) 1)) ⟨#[]⟩) then (
   need (CutB 0 (subI .i64 (lenL (splitT r1 10)) 1) (lenL (splitT r1 10))) <|
   some (.go (cutL (splitT r1 10) 0 (subI .i64 (lenL (splitT r1 10)) 1)))
  ) else (
    some (.go (splitT r1 10))
  )
  : Option (Fl (List ByteArray) Bool)).bind fun f => flC f fun (v1 : List ByteArray) =>
  (gZ).bind fun r3 =>
  bif (notB r3) then (
   some false
  ) else (
    ((loopF (gap.loop2 r2 v1) 0).bind fun f => flC f fun (_v2 : Unit) =>
      some (pickB (pickB (eqI r2.2.2 0) (eqI (lenL r2.1) (lenL v1)) false) (eqI r2.2.1 0) false)
    )
  )
 )
end Go.Proofs
end
