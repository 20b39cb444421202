/- Worlds that only have more blocks behind. No condition. -/
import Derived.Test.YtoiieebljbhpbaaGreatDoorAb9
import Derived.Maps.OwnSet
import Derived.Test.YtoiieebljbhpbaaGreatDoorTs
import Derived.Test.YtoiieebljbhpbaaGreatDoorM03
import Derived.Test.YtoiieebljbhpbaaGreatDoorTy
import Derived.Lib.MapLaws
import Derived.Laws.Cover4
section
namespace Go.Ab

theorem keep_below {g : G} {w' : World} (h : RowKit.Below g.w.heap.size g.w w') : Keep g { g with w := w' } where
 len := Nat.le_refl _
 ptr _ _ := rfl
 rooms _ _ e h := ⟨e, h, Nat.le_refl _, fun _ => rfl⟩
 size := h.size
 cells a x hx _ := by rw [← hx]; simp only [World.cell?]; rw [h.block _ (cell_lt hx)]
 regs _ _ h := h
 blocks b hb _ := h.block b hb
 io := ⟨h.os, h.output⟩
 xs _ h := h
 xcell a ha _ := by simp only [World.cell?, World.frozen?]; rw [h.block _ ha]; exact ⟨rfl, rfl⟩
 xblk b hb _ := h.block b hb

theorem sim_below {g : G} {w' : World} (h : RowKit.Below g.w.heap.size g.w w') (s : Sim g) : Sim { g with w := w' } where
 fct := s.fct.keep (keep_below h)
 blk i cells hi := by
  obtain ⟨xs, T, h1, h2, h3, h4⟩ := s.blk i cells hi
  exact ⟨xs, T, (h.block _ (blk_lt s hi)).trans h1, h2, fun j hj => (h3 j hj).keep (keep_below h), h4⟩
 iter i t pos hi := (h.block _ (iter_lt s hi)).trans (s.iter i t pos hi)
 room t e ht k hk := by
  obtain ⟨x, h1, h2⟩ := s.room t e ht k hk
  have hb := cell_lt h1
  refine ⟨x, ?_, ?_⟩
  ·simp only [World.cell?] at h1 ⊢; rw [h.block _ hb]; exact h1
  ·simp only [World.frozen?] at h2 ⊢; rw [h.block _ hb]; exact h2
 disj := s.disj
 inb a ha := Nat.lt_of_lt_of_le (s.inb a ha) h.size
 xdis := s.xdis
 mapo i es hi := by
  obtain ⟨o', h1, h2⟩ := s.mapo i es hi
  exact ⟨o', (h.block _ (mapo_lt s hi)).trans h1, h2.keep (keep_below h)⟩
 opq i φ hi := by
  have e1 := h.block _ (Ll s hi (.inl rfl))
  have e2 := h.block _ (Ll s hi (.inr rfl))
  show φ _ _ (w'.heap[g.β i]?) (w'.heap[(g.ρ i).b]?)
  rw [e1, e2]; exact s.opq i φ hi
 own i P cur hi := s.ownKeep (keep_below h).toKeep0 (fun a ha => Nat.lt_of_lt_of_le (s.inb a ha) h.size) hi hi rfl rfl fun b hb => h.block _ (Ll s hi hb)
 arr i z els hi := (s.arr i z els hi).keep0 (keep_below h).toKeep0 fun hne => h.block _ (Ll s hi ⟨hne, rfl⟩)
 mapr i es vis cur t hi := by
  obtain ⟨t1, t2, o', oi, h1, h2, h3⟩ := s.mapr i es vis cur t hi
  exact ⟨t1, t2, o', oi, (h.block _ (Ll s hi (.inl rfl))).trans h1, (h.block _ (Ll s hi (.inr rfl))).trans h2, h3.keep (keep_below h)⟩

end Go.Ab
end
section
namespace Go.Proofs
open Go.Ab
noncomputable def gar.loop1 (x0 : Tn) (x1 : Int) (s1 : Int) : Option (Fl Int (Fl Unit (Ta × Bool))) :=
 bif (ltI s1 (lenL x0.fL)) then (
  need (InB s1 (lenL x0.fL)) <|
  bif (eqI ((nthI x0.fL s1).fN) x1) then (
   some (.out (.out ((Ta.mk ((nthI x0.fL s1).fN) ((nthI x0.fL s1).fp) ((nthI x0.fL s1).fm)), true)))
  ) else (
    some (.go (addI .i64 s1 1))
  )
 ) else (
   some (.out (.go ()))
 )

noncomputable def gar (x0 : Tn) (x1 : Int) : Option (Ta × Bool) :=
 ((loopF (gar.loop1 x0 x1) 0).bind fun f => flC f fun (_v1 : Unit) =>
   some ((Ta.mk 0 ⟨#[]⟩ ⟨#[]⟩), false)
 )

noncomputable def gaw.loop1 (x0 : Tn) (x1 : ByteArray) (s1 : Int × List Ta) : Option (Fl (Int × List Ta) (Fl (List Ta) (List Ta))) :=
 bif (ltI s1.1 (lenL x0.fL)) then (
  need (InB s1.1 (lenL x0.fL)) <|
  ((gae ((nthI x0.fL s1.1).fm))).bind fun r1 =>
  ((gae x1)).bind fun r2 =>
  bif (eqS r1 r2) then (
   need (AppB (lenL s1.2) 1 40) <|
   some (.go ((addI .i64 s1.1 1), (appL s1.2 [(Ta.mk ((nthI x0.fL s1.1).fN) ((nthI x0.fL s1.1).fp) ((nthI x0.fL s1.1).fm))])))
  ) else (
    some (.go ((addI .i64 s1.1 1), s1.2))
  )
 ) else (
   some (.out (.go s1.2))
 )

noncomputable def gaw (x0 : Tn) (x1 : ByteArray) : Option (List Ta) :=
 ((loopF (gaw.loop1 x0 x1) (0, [])).bind fun f => flC f fun (v1 : List Ta) =>
   some v1
 )

noncomputable def gaq.loop1 (x0 : Tn) (s1 : Int × List ByteArray) : Option (Fl (Int × List ByteArray) (Fl (List ByteArray) (List ByteArray))) :=
 bif (ltI s1.1 (lenL x0.fL)) then (
  need (InB s1.1 (lenL x0.fL)) <|
  need (CutB 0 s1.1 (lenL x0.fL)) <|
  ((gaw (Tn.mk (cutL x0.fL 0 s1.1) 0) ((nthI x0.fL s1.1).fm))).bind fun r1 =>
  bif (eqI (lenL r1) 0) then (
   ((gae ((nthI x0.fL s1.1).fm))).bind fun r2 =>
   need (AppB (lenL s1.2) 1 16) <|
   some (.go ((addI .i64 s1.1 1), (appL s1.2 [r2])))
  ) else (
    some (.go ((addI .i64 s1.1 1), s1.2))
  )
 ) else (
   some (.out (.go s1.2))
 )

noncomputable def gaq (x0 : Tn) : Option (List ByteArray) :=
 ((loopF (gaq.loop1 x0) (0, [])).bind fun f => flC f fun (v1 : List ByteArray) =>
   some v1
 )

noncomputable def gav.loop1 (x0 : Tn) (x2 : ByteArray) (r2 : List Ta) (s1 : Int) : Option (Fl Int (Fl Unit (Tn × Int × Int))) :=
 bif (ltI s1 (lenL r2)) then (
  need (InB s1 (lenL r2)) <|
  ((gae ((nthI r2 s1).fp))).bind fun r3 =>
  ((gae x2)).bind fun r4 =>
  bif (eqS r3 r4) then (
   some (.out (.out (x0, 0, 10)))
  ) else (
    some (.go (addI .i64 s1 1))
  )
 ) else (
   some (.out (.go ()))
 )

noncomputable def gav (x0 : Tn) (x1 : ByteArray) (x2 : ByteArray) : Option (Tn × Int × Int) :=
 ((gag x1)).bind fun r1 =>
 need (Under (notB r1) false ((gag x2).isSome = true)) <|
 bif (pickB (notB r1) true (notB ((gag x2).getD dflt))) then (
  some (x0, 0, 6)
 ) else (
   ((gaw x0 x1)).bind fun r2 =>
   ((loopF (gav.loop1 x0 x2 r2) 0).bind fun f => flC f fun (_v1 : Unit) =>
     need (Under (eqI (lenL r2) 0) true (Under (leqI 16 (lenL r2)) false ((gaq x0).isSome = true))) <|
     bif (pickB (pickB (leqI 16 (lenL r2)) true (pickB (eqI (lenL r2) 0) (leqI 8 (lenL ((gaq x0).getD dflt))) false)) true (ltI 65535 x0.fj)) then (
      some (x0, 0, 11)
     ) else (
       need (AppB 0 (lenL x0.fL) 40) <|
       need (AppB (lenL x0.fL) 1 40) <|
       some ((Tn.mk (appL (appL [] x0.fL) [(Ta.mk x0.fj x2 x1)]) (addI .i64 x0.fj 1)), x0.fj, 0)
     )
   )
 )

noncomputable def gau.loop1 (x0 : Tn) (x1 : Int) (s1 : Int × List Ta) : Option (Fl (Int × List Ta) (Fl (List Ta) (Tn × Int))) :=
 bif (ltI s1.1 (lenL x0.fL)) then (
  need (InB s1.1 (lenL x0.fL)) <|
  bif (neI ((nthI x0.fL s1.1).fN) x1) then (
   need (AppB (lenL s1.2) 1 40) <|
   some (.go ((addI .i64 s1.1 1), (appL s1.2 [(Ta.mk ((nthI x0.fL s1.1).fN) ((nthI x0.fL s1.1).fp) ((nthI x0.fL s1.1).fm))])))
  ) else (
    some (.go ((addI .i64 s1.1 1), s1.2))
  )
 ) else (
   some (.out (.go s1.2))
 )

noncomputable def gau (x0 : Tn) (x1 : Int) : Option (Tn × Int) :=
 ((loopF (gau.loop1 x0 x1) (0, [])).bind fun f => flC f fun (v1 : List Ta) =>
   bif (eqI (lenL v1) (lenL x0.fL)) then (
    some (x0, 8)
   ) else (
     some ((Tn.mk v1 x0.fj), 0)
   )
 )

noncomputable def gaD (x0 : Tn) (x1 : Int) (x2 : Int) : Option Bool :=
 ((gar x0 x1)).bind fun r1 =>
 ((gar x0 x2)).bind fun r2 =>
 need (Under (pickB (pickB r1.2 r2.2 false) (neI x1 x2) false) true ((gae r1.1.fm).isSome = true)) <|
 need (Under (pickB (pickB r1.2 r2.2 false) (neI x1 x2) false) true ((gae r2.1.fm).isSome = true)) <|
 some (pickB (pickB (pickB r1.2 r2.2 false) (neI x1 x2) false) (eqS ((gae r1.1.fm).getD dflt) ((gae r2.1.fm).getD dflt)) false)
end Go.Proofs
end
section
namespace Go.Ab
open Go.Proofs Go.RowKit

@[simp] noncomputable def isLetterS : Sp
  | [.lit (.int .i32 r)], _ => some { av := .lit (.bool (letterR r)), obl := I32B r }
  | _, _ => none
@[simp] noncomputable def isDigitS : Sp
  | [.lit (.int .i32 r)], _ => some { av := .lit (.bool (digitR r)), obl := I32B r }
  | _, _ => none
@[simp] noncomputable def toLowerS : Sp
  | [.lit (.int .i32 r)], _ => some { av := .lit (.int .i32 (lowerR r)) }
  | _, _ => none
theorem ok_below {P : Program} {f : FuncId} {g : G} {vs : List Value} {v : Value} (hent : ∀ args w, (callFunc f args).run P w = .ok (.enter f args) w) (sm : Sim g)
  (hc : Calls P f vs.toArray g.w fun e w' => e = .returned v ∧ Below g.w.heap.size g.w w') {ob : Prop} : 
  (callFunc f vs.toArray).run P g.w = .ok (.enter f vs.toArray) g.w ∧ Calls P f vs.toArray g.w fun e w' => ∃ u, e = .returned u ∧ Post g { av := .lit v, obl := ob } u w' := by
 refine ⟨hent _ _, hc.mono ?_⟩
 rintro e w' ⟨rfl, hb⟩
 exact ⟨v, rfl, g.β, g.ρ, sim_below hb sm, .lit _, keep_below hb⟩
end Go.Ab
namespace Go.Proofs
open Go.RowKit Go.Ab
theorem gIsLetter.ok : SpecOk Tryz.prog 136 isLetterS := by
 intro l M out h
 unfold isLetterS at h
 split at h
 ·rename_i r
  cases h
  intro g vs hM sm hr ho
  cases hr with | cons hv hr => cases hr with | nil =>
  cases hv
  exact ok_below (fun _ _ => by kernel_rfl) sm (Any.unicode_IsLetter_all Tryz.laysLetter Tryz.gaL r g.w ho.1 ho.2 sm.fct.here.1 sm.fct.here.2.1)
 ·cases h
theorem gIsDigit.ok : SpecOk Tryz.prog 137 isDigitS := by
 intro l M out h
 unfold isDigitS at h
 split at h
 ·rename_i r
  cases h
  intro g vs hM sm hr ho
  cases hr with | cons hv hr => cases hr with | nil =>
  cases hv
  exact ok_below (fun _ _ => by kernel_rfl) sm (Any.unicode_IsDigit_all Tryz.laysDigit r g.w ho.1 ho.2 sm.fct.here.2.2.1)
 ·cases h
theorem gToLower.ok : SpecOk Tryz.prog 128 toLowerS := by
 intro l M out h
 unfold toLowerS at h
 split at h
 ·rename_i r
  cases h
  intro g vs hM sm hr ho
  cases hr with | cons hv hr => cases hr with | nil =>
  cases hv
  refine ok_below (fun _ _ => by kernel_rfl) sm ((Any.unicode_ToLower_laid Tryz.laysLower r g.w sm.fct.here.2.2.2).mono ?_)
  rintro e w' ⟨rfl, q, rfl⟩
  exact ⟨rfl, below_drewN _ _⟩
 ·cases h
end Go.Proofs
end
section
namespace Go.Ab
open Go.Lib

/-! ### Bytes -/
def bytesOf (s : ByteArray) : List UInt8 := s.data.toList
theorem bytesOf_len (s : ByteArray) : (bytesOf s).length = s.size := Array.length_toList
theorem bytes_ext {a b : ByteArray} (h : bytesOf a = bytesOf b) : a = b := by
 cases a; cases b
 congr 1
 exact Array.ext' h
theorem eqS_b (a b : ByteArray) : eqS a b = decide (bytesOf a = bytesOf b) := by
 by_cases h : a = b
 ·subst h; rw [(eqS_iff a a).2 rfl]; simp
 ·have : eqS a b = false := by
   cases e : eqS a b with
   | false => rfl
   | true => exact absurd ((eqS_iff a b).1 e) h
  rw [this, decide_eq_false]
  exact fun q => h (bytes_ext q)
theorem neS_b (a b : ByteArray) : neS a b = !eqS a b := rfl
theorem cutS_b (s : ByteArray) (l h : Int) : bytesOf (cutS s l h) = ((bytesOf s).drop l.toNat).take (h.toNat - l.toNat) := by
 simp [cutS, bytesOf, ByteArray.data_extract, List.extract_eq_take_drop]
theorem catS_b (a b : ByteArray) : bytesOf (catS a b) = bytesOf a ++ bytesOf b := by
 simp [catS, bytesOf]
theorem lit_b (l : List UInt8) : bytesOf ⟨l.toArray⟩ = l := by simp [bytesOf]

/-! ### Encoding -/
theorem enc_b (r : Int) : bytesOf (Utf8.encode r) = encodeRune r := by
 unfold encodeRune
 by_cases h : (0 ≤ r ∧ r < 55296) ∨ (57344 ≤ r ∧ r ≤ 1114111)
 ·have hv : Utf8.valid r = true := by simp [Utf8.valid]; omega
  obtain ⟨n, rfl⟩ : ∃ n : Nat, r = n := ⟨r.toNat, by omega⟩
  unfold Utf8.encode
  rw [if_pos hv]
  simp only [Int.toNat_natCast]
  by_cases h1 : n < 128
  ·rw [encodeRuneZ_one (by omega) (by omega), if_pos h1]
   simp [bytesOf]
  rw [if_neg h1]
  by_cases h2 : n < 2048
  ·rw [encodeRuneZ_two (by omega) (by omega), if_pos h2]
   have e1 : ((192 + (n : Int) / 64)).toNat = 192 + n / 64 := by omega
   have e2 : ((128 + (n : Int) % 64)).toNat = 128 + n % 64 := by omega
   simp [bytesOf, e1, e2]
  rw [if_neg h2]
  by_cases h3 : n < 65536
  ·rw [encodeRuneZ_three (by omega), if_pos h3]
   have e1 : ((224 + (n : Int) / 4096)).toNat = 224 + n / 4096 := by omega
   have e2 : ((128 + (n : Int) / 64 % 64)).toNat = 128 + n / 64 % 64 := by omega
   have e3 : ((128 + (n : Int) % 64)).toNat = 128 + n % 64 := by omega
   simp [bytesOf, e1, e2, e3]
  ·rw [encodeRuneZ_four (by omega) (by omega), if_neg h3]
   have e0 : ((240 + (n : Int) / 262144)).toNat = 240 + n / 262144 := by omega
   have e1 : ((128 + (n : Int) / 4096 % 64)).toNat = 128 + n / 4096 % 64 := by omega
   have e2 : ((128 + (n : Int) / 64 % 64)).toNat = 128 + n / 64 % 64 := by omega
   have e3 : ((128 + (n : Int) % 64)).toNat = 128 + n % 64 := by omega
   simp [bytesOf, e0, e1, e2, e3]
 ·have hv : Utf8.valid r = false := by
   cases e : Utf8.valid r with
   | false => rfl
   | true =>
     simp [Utf8.valid] at e
     omega
  rw [encodeRuneZ_bad (by omega)]
  unfold Utf8.encode
  simp only [hv, Bool.false_eq_true, if_false, Utf8.runeError]
  decide

theorem runes_foldl : ∀ (ns : List Int) (a : ByteArray), bytesOf (ns.foldl (fun r n => r ++ Utf8.encode n) a) = bytesOf a ++ ns.flatMap encodeRune
 | [], a => by simp
 | n :: ns, a => by
   rw [List.foldl_cons, runes_foldl ns, List.flatMap_cons, ← enc_b]
   simp [bytesOf]
theorem runes_b (ns : List Int) : bytesOf (runesBytes ns) = ns.flatMap encodeRune := by
 unfold runesBytes
 rw [runes_foldl]
 rfl
theorem nums_b (ns : List Int) : bytesOf (strOfNums ns) = ns.map fun n => n.toNat.toUInt8 := by
 simp [strOfNums, bytesOf]
theorem numsRune_b (ns : List Int) : bytesOf (strOfNums (ns.flatMap runeZ)) = ns.flatMap encodeRune := by
 rw [nums_b, List.map_flatMap]
 rfl

theorem enc_len (r : Int) : 1 ≤ (encodeRune r).length ∧ (encodeRune r).length ≤ 4 := by
 have := encodeRuneZ_length r
 simpa [encodeRune] using this

/-! ### Decoding -/
def runesF : Nat → List UInt8 → List Int
 | 0, _ => []
 | n + 1, l => match l with
   | [] => []
   | a :: t => ((decodeL (a :: t)).1 : Int) :: runesF n ((a :: t).drop (decodeL (a :: t)).2)
def runesL (l : List UInt8) : List Int := runesF l.length l
theorem runesF_fuel : ∀ (n m : Nat) (l : List UInt8), l.length ≤ n → l.length ≤ m → runesF n l = runesF m l
 | 0, 0, _, _, _ => rfl
 | 0, m + 1, l, h, _ => by
   have : l = [] := List.eq_nil_of_length_eq_zero (by omega)
   subst this; rfl
 | n + 1, 0, l, _, h => by
   have : l = [] := List.eq_nil_of_length_eq_zero (by omega)
   subst this; rfl
 | n + 1, m + 1, [], _, _ => rfl
 | n + 1, m + 1, a :: t, h, h' => by
   have hw := decodeL_width (a :: t)
   simp only [runesF]
   rw [runesF_fuel n m _ (by rw [List.length_drop]; omega) (by rw [List.length_drop]; omega)]
theorem runesL_nil : runesL [] = [] := rfl
theorem runesL_cons {l : List UInt8} (h : l ≠ []) : runesL l = ((decodeL l).1 : Int) :: runesL (l.drop (decodeL l).2) := by
 cases l with
 | nil => exact absurd rfl h
 | cons a t =>
   have hw := decodeL_width (a :: t)
   unfold runesL
   simp only [List.length_cons, runesF]
   rw [runesF_fuel t.length _ _ (by rw [List.length_drop]; simp only [List.length_cons]; omega) (Nat.le_refl _)]

theorem rune_rng (l : List UInt8) : 0 ≤ ((decodeL l).1 : Int) ∧ ((decodeL l).1 : Int) ≤ 1114111 := by
 have := decodeL_rune l
 omega
theorem runesL_rng : ∀ (n : Nat) (l : List UInt8), l.length ≤ n → ∀ r ∈ runesL l, 0 ≤ r ∧ r ≤ 1114111
 | n, [], _, r, hr => by cases hr
 | 0, a :: t, h, _, _ => by simp at h
 | n + 1, a :: t, h, r, hr => by
   have hw := decodeL_width (a :: t)
   rw [runesL_cons (by simp)] at hr
   rcases List.mem_cons.1 hr with rfl | hr
   ·exact rune_rng _
   ·exact runesL_rng n _ (by rw [List.length_drop]; omega) r hr
theorem runesL_len : ∀ (n : Nat) (l : List UInt8), l.length ≤ n → (runesL l).length ≤ l.length ∧ l.length ≤ 4 * (runesL l).length
 | n, [], _ => by simp [runesL_nil]
 | 0, a :: t, h => by simp at h
 | n + 1, a :: t, h => by
   have hw := decodeL_width (a :: t)
   have hw4 : (decodeL (a :: t)).2 ≤ 4 := by
    rw [decodeL_N]
    rcases decodeN_shape (a :: t).length ((a :: t).getD 0 0).toNat ((a :: t).getD 1 0).toNat ((a :: t).getD 2 0).toNat ((a :: t).getD 3 0).toNat with ⟨c, e⟩ | ⟨c1, c2, c3, cv, e⟩ | ⟨c1, c2, c3, c4, cv, cs, e⟩ | ⟨c1, c2, c3, c4, c5, cv, cw, e⟩ | e
    all_goals (rw [e]; dsimp only; omega)
   have ih := runesL_len n ((a :: t).drop (decodeL (a :: t)).2) (by rw [List.length_drop]; omega)
   rw [runesL_cons (by simp)]
   rw [List.length_drop] at ih
   simp only [List.length_cons] at ih ⊢
   omega

/-! ### A place in a text -/
def restS (s : ByteArray) (pos : Nat) : List UInt8 := (bytesOf s).drop pos
theorem restS_0 (s : ByteArray) : restS s 0 = bytesOf s := rfl
theorem restS_len (s : ByteArray) (pos : Nat) : (restS s pos).length = s.size - pos := by simp [restS, bytesOf_len]
theorem nextB_t {s : ByteArray} {pos : Nat} (h : restS s pos ≠ []) : nextB s pos = true := by
 have : 0 < (restS s pos).length := List.length_pos_iff.2 h
 rw [restS_len] at this
 simp [nextB]; omega
theorem nextB_f {s : ByteArray} {pos : Nat} (h : restS s pos = []) : nextB s pos = false := by
 have : (restS s pos).length = 0 := by rw [h]; rfl
 rw [restS_len] at this
 simp [nextB]; omega
theorem runeS_d (s : ByteArray) (pos : Nat) : runeS s pos = ((decodeL (restS s pos)).1 : Int) := by
 unfold runeS restS bytesOf
 rw [decodeL_drop]
theorem stepS_d (s : ByteArray) (pos : Nat) : stepS s pos = pos + (decodeL (restS s pos)).2 := by
 unfold stepS restS bytesOf
 rw [decodeL_drop]
theorem restS_step (s : ByteArray) (pos : Nat) : restS s (stepS s pos) = (restS s pos).drop (decodeL (restS s pos)).2 := by
 rw [stepS_d]
 simp [restS, List.drop_drop]
theorem step_gt (s : ByteArray) (pos : Nat) : pos < stepS s pos := by
 rw [stepS_d]
 have := decodeL_width (restS s pos)
 omega
theorem rune_I32 (s : ByteArray) (pos : Nat) : I32B (runeS s pos) := by
 rw [runeS_d]
 have := rune_rng (restS s pos)
 exact ⟨by omega, by omega⟩
def scan (s : ByteArray) (pos : Nat) : List Int := runesL (restS s pos)
theorem scan_t {s : ByteArray} {pos : Nat} (h : restS s pos ≠ []) : scan s pos = runeS s pos :: scan s (stepS s pos) := by
 unfold scan
 rw [runesL_cons h, restS_step, runeS_d]
theorem scan_f {s : ByteArray} {pos : Nat} (h : restS s pos = []) : scan s pos = [] := by
 unfold scan
 rw [h]; rfl
theorem scan_rng (s : ByteArray) (pos : Nat) : ∀ r ∈ scan s pos, 0 ≤ r ∧ r ≤ 1114111 := runesL_rng _ _ (Nat.le_refl _)
theorem scan_len (s : ByteArray) (pos : Nat) : (scan s pos).length ≤ s.size - pos ∧ s.size - pos ≤ 4 * (scan s pos).length := by
 have := runesL_len _ (restS s pos) (Nat.le_refl _)
 rw [restS_len] at this
 exact this
theorem dec_enc {r : Int} (h : (0 ≤ r ∧ r < 55296) ∨ (57344 ≤ r ∧ r ≤ 1114111)) (t : List UInt8) : ((decodeL (encodeRune r ++ t)).1 : Int) = r ∧ (decodeL (encodeRune r ++ t)).2 = (encodeRune r).length := by
 obtain ⟨n, rfl⟩ : ∃ n : Nat, r = n := ⟨r.toNat, by omega⟩
 rw [decodeL_N]
 unfold encodeRune
 by_cases h1 : n < 128
 ·rw [encodeRuneZ_one (by omega) (by omega)]
  have e : ((n : Int).toNat.toUInt8).toNat = n := by simp; omega
  simp only [List.map_cons, List.map_nil, List.cons_append, List.nil_append, List.getD_cons_zero, e]
  unfold decodeN
  rw [if_pos h1]
  exact ⟨rfl, rfl⟩
 by_cases h2 : n < 2048
 ·rw [encodeRuneZ_two (by omega) (by omega)]
  have e0 : ((192 + (n : Int) / 64).toNat.toUInt8).toNat = 192 + n / 64 := by
   rw [show (192 + (n : Int) / 64).toNat = 192 + n / 64 by omega]; simp; omega
  have e1 : ((128 + (n : Int) % 64).toNat.toUInt8).toNat = 128 + n % 64 := by
   rw [show (128 + (n : Int) % 64).toNat = 128 + n % 64 by omega]; simp; omega
  simp only [List.map_cons, List.map_nil, List.cons_append, List.nil_append, List.getD_cons_zero, List.getD_cons_succ, e0, e1, List.length_cons]
  unfold decodeN
  rw [if_neg (by omega), if_pos (by omega), if_pos (by omega)]
  refine ⟨?_, rfl⟩
  dsimp only; omega
 by_cases h3 : n < 65536
 ·rw [encodeRuneZ_three (by omega)]
  have e0 : ((224 + (n : Int) / 4096).toNat.toUInt8).toNat = 224 + n / 4096 := by
   rw [show (224 + (n : Int) / 4096).toNat = 224 + n / 4096 by omega]; simp; omega
  have e1 : ((128 + (n : Int) / 64 % 64).toNat.toUInt8).toNat = 128 + n / 64 % 64 := by
   rw [show (128 + (n : Int) / 64 % 64).toNat = 128 + n / 64 % 64 by omega]; simp; omega
  have e2 : ((128 + (n : Int) % 64).toNat.toUInt8).toNat = 128 + n % 64 := by
   rw [show (128 + (n : Int) % 64).toNat = 128 + n % 64 by omega]; simp; omega
  simp only [List.map_cons, List.map_nil, List.cons_append, List.nil_append, List.getD_cons_zero, List.getD_cons_succ, e0, e1, e2, List.length_cons]
  unfold decodeN
  rw [if_neg (by omega), if_neg (by omega), if_pos (by omega), if_pos (by omega)]
  refine ⟨?_, rfl⟩
  dsimp only; omega
 ·rw [encodeRuneZ_four (by omega) (by omega)]
  have e0 : ((240 + (n : Int) / 262144).toNat.toUInt8).toNat = 240 + n / 262144 := by
   rw [show (240 + (n : Int) / 262144).toNat = 240 + n / 262144 by omega]; simp; omega
  have e1 : ((128 + (n : Int) / 4096 % 64).toNat.toUInt8).toNat = 128 + n / 4096 % 64 := by
   rw [show (128 + (n : Int) / 4096 % 64).toNat = 128 + n / 4096 % 64 by omega]; simp; omega
  have e2 : ((128 + (n : Int) / 64 % 64).toNat.toUInt8).toNat = 128 + n / 64 % 64 := by
   rw [show (128 + (n : Int) / 64 % 64).toNat = 128 + n / 64 % 64 by omega]; simp; omega
  have e3 : ((128 + (n : Int) % 64).toNat.toUInt8).toNat = 128 + n % 64 := by
   rw [show (128 + (n : Int) % 64).toNat = 128 + n % 64 by omega]; simp; omega
  simp only [List.map_cons, List.map_nil, List.cons_append, List.nil_append, List.getD_cons_zero, List.getD_cons_succ, e0, e1, e2, e3, List.length_cons]
  unfold decodeN
  rw [if_neg (by omega), if_neg (by omega), if_neg (by omega), if_pos (by omega), if_pos (by omega)]
  refine ⟨?_, rfl⟩
  dsimp only; omega
def ValidR (r : Int) : Prop := (0 ≤ r ∧ r < 55296) ∨ (57344 ≤ r ∧ r ≤ 1114111)
theorem dec_valid (l : List UInt8) : ValidR ((decodeL l).1 : Int) := by
 unfold ValidR
 rw [decodeL_N]
 have k0 := (l.getD 0 0).toNat_lt
 have k1 := (l.getD 1 0).toNat_lt
 rcases decodeN_shape l.length (l.getD 0 0).toNat (l.getD 1 0).toNat (l.getD 2 0).toNat (l.getD 3 0).toNat with ⟨c, e⟩ | ⟨c1, c2, c3, cv, e⟩ | ⟨c1, c2, c3, c4, cv, cs, e⟩ | ⟨c1, c2, c3, c4, c5, cv, cw, e⟩ | e
 all_goals (rw [e]; dsimp only; omega)
end Go.Ab
end
