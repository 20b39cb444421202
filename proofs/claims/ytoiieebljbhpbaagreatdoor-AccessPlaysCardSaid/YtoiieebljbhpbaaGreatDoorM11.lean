import Derived.Test.YtoiieebljbhpbaaGreatDoorTs
import Derived.Test.YtoiieebljbhpbaaGreatDoorM15
import Derived.Test.YtoiieebljbhpbaaGreatDoorM02
import Derived.Test.YtoiieebljbhpbaaGreatDoorTy
import Derived.Test.YtoiieebljbhpbaaGreatDoorM12
import Derived.Test.YtoiieebljbhpbaaGreatDoorM09
import Derived.Lib.UnsafeStr
import Derived.Test.YtoiieebljbhpbaaGreatDoorAb5
import Derived.Test.YtoiieebljbhpbaaGreatDoorAb8
import Derived.Stop.Joined
section
namespace Go.Ab
def leLk (x y : Tb) : Bool := decide (x.fu < y.fu ∨ (x.fu = y.fu ∧ (x.fOf.fc < y.fOf.fc ∨ (x.fOf.fc = y.fOf.fc ∧ x.fOf.ff ≤ y.fOf.ff))))
def sortLk (l : List Tb) : List Tb := l.mergeSort leLk
def Keys3B {α : Type} (l : List α) : Prop := l.length * 24 ≤ 140737488355328
end Go.Ab
end
section
namespace Go.Proofs
open Go.Ab
def gaD (x0 : Tn) (x1 : Int) : Option Int :=
 some (x0.fd.foldr (fun e n => bif eqI e.1.fu x1 then addI .i64 n 1 else n) 0)
end Go.Proofs
end
section
namespace Go.Proofs
open Go.Ab
noncomputable def gL (x0 : Tn) (x1 : Int) : Option Int :=
 ((gaD x0 x1)).bind fun r1 =>
 some r1
end Go.Proofs
end
section
namespace Go.Proofs
open Go.Ab
open Classical in
noncomputable def nubL {α : Type} : List α → List α
 | [] => []
 | a :: l => if a ∈ l then nubL l else a :: nubL l
theorem mem_nubL {α : Type} {x : α} : ∀ {l : List α}, x ∈ nubL l ↔ x ∈ l
 | [] => by simp [nubL]
 | a :: l => by
   rw [nubL];split
   ·rename_i h;rw [mem_nubL (l := l), List.mem_cons];exact ⟨.inr, fun q => q.elim (fun e => e ▸ h) id⟩
   ·rw [List.mem_cons, List.mem_cons, mem_nubL (l := l)]
theorem nodup_nubL {α : Type} : ∀ (l : List α), (nubL l).Nodup
 | [] => by simp [nubL]
 | a :: l => by
   rw [nubL];split
   ·exact nodup_nubL l
   ·rename_i h;exact List.nodup_cons.2 ⟨fun q => h (mem_nubL.1 q), nodup_nubL l⟩
noncomputable def foldsM (m : List (Int × Ta)) : List ByteArray := m.map fun e => (gW e.2.fk).getD dflt
noncomputable def gaG (x0 : Tq) : Option (List ByteArray) :=
 need (∀ e ∈ x0.fg, (gW e.2.fk).isSome = true) <|
 need (KeysBS (foldsM x0.fg)) <|
 some (sortS (nubL (foldsM x0.fg)))
theorem sortS_perm {l l' : List ByteArray} (h : l.Perm l') : sortS l = sortS l' := by
 unfold sortS;rw [Go.mergeSort_of_perm (h.map kbytesOf)]
end Go.Proofs
end
section
namespace Go.Proofs
open Go.Ab
noncomputable def gN (x0 : Tq) : Option (List ByteArray) :=
 ((gaG x0)).bind fun r1 =>
 some r1
end Go.Proofs
end
section
namespace Go.Proofs
open Go.Ab
noncomputable def gaA (x0 : ByteArray) (x1 : Int) : Option ByteArray :=
 bif (ltI x1 (lenS x0)) then (
  need (CutB 0 x1 (lenS x0)) <|
  some (cutS x0 0 x1)
 ) else (
   some x0
 )
end Go.Proofs
end
section
namespace Go.Proofs
open Go.Ab
noncomputable def gay (x0 : Int) : Option Int :=
 bif (ltI x0 128) then (
  some 1
 ) else (
   bif (ltI x0 2048) then (
    some 2
   ) else (
     bif (ltI x0 65536) then (
      some 3
     ) else (
       some 4
     )
   )
 )
noncomputable def gar (x0 : Int) : Option Int :=
 bif (pickB (pickB (eqI x0 45) true (eqI x0 95)) true (eqI x0 46)) then (
  some 3
 ) else (
   need (I32B x0) <|
   bif (letterR x0) then (
    some 1
   ) else (
     need (I32B x0) <|
     bif (digitR x0) then (
      some 2
     ) else (
       some 0
     )
   )
 )
noncomputable def gab.loop1 (x0 : ByteArray) (s1 : Int × List Int × Nat) : Option (Fl (Int × List Int × Nat) (Fl (List Int) (List Int × Bool))) :=
 bif (nextB x0 s1.2.2) then (
  ((gay (runeS x0 s1.2.2))).bind fun r1 =>
  need (Under (ltI (lenS x0) (addI .i64 s1.1 r1)) false (CutB s1.1 (addI .i64 s1.1 r1) (lenS x0))) <|
  bif (pickB (ltI (lenS x0) (addI .i64 s1.1 r1)) true (neS (runesBytes [(runeS x0 s1.2.2)]) (cutS x0 s1.1 (addI .i64 s1.1 r1)))) then (
   some (.out (.out ([], false)))
  ) else (
    need (AppB (lenL s1.2.1) 1 4) <|
    some (.go ((addI .i64 s1.1 r1), (appL s1.2.1 [(runeS x0 s1.2.2)]), (stepS x0 s1.2.2)))
  )
 ) else (
   some (.out (.go s1.2.1))
 )
noncomputable def gab (x0 : ByteArray) : Option (List Int × Bool) :=
 ((loopF (gab.loop1 x0) (0, [], 0)).bind fun f => flC f fun (v1 : List Int) =>
   some (v1, true)
 )
noncomputable def gM.loop1 (r1 : List Int × Bool) (s1 : Int) : Option (Fl Int (Fl Unit Bool)) :=
 bif (ltI s1 (lenL r1.1)) then (
  need (InB s1 (lenL r1.1)) <|
  ((gar (nthI r1.1 s1))).bind fun r2 =>
  need (Under (pickB (eqI s1 0) true (eqI s1 (subI .i64 (lenL r1.1) 1))) false (Under (eqI r2 3) true (Under (eqI r2 0) false (InB (subI .i64 s1 1) (lenL r1.1))))) <|
  need (Under (pickB (eqI s1 0) true (eqI s1 (subI .i64 (lenL r1.1) 1))) false (Under (eqI r2 3) true (Under (eqI r2 0) false ((gar (nthI r1.1 (subI .i64 s1 1))).isSome = true)))) <|
  bif (pickB (eqI r2 0) true (pickB (eqI r2 3) (pickB (pickB (eqI s1 0) true (eqI s1 (subI .i64 (lenL r1.1) 1))) true (eqI ((gar (nthI r1.1 (subI .i64 s1 1))).getD dflt) 3)) false)) then (
   some (.out (.out false))
  ) else (
    some (.go (addI .i64 s1 1))
  )
 ) else (
   some (.out (.go ()))
 )
noncomputable def gM (x0 : ByteArray) : Option Bool :=
 ((gab x0)).bind fun r1 =>
 bif (pickB (pickB (notB r1.2) true (ltI (lenL r1.1) 1)) true (ltI 16 (lenL r1.1))) then (
  some false
 ) else (
   ((loopF (gM.loop1 r1) 0).bind fun f => flC f fun (_v1 : Unit) =>
     some true
   )
 )
noncomputable def gF.loop1 (x0 : ByteArray) (s1 : List Int × Nat) : Option (Fl (List Int × Nat) (Fl (List Int) ByteArray)) :=
 bif (nextB x0 s1.2) then (
  need (AppB (lenL s1.1) 1 4) <|
  some (.go ((appL s1.1 [(lowerR (runeS x0 s1.2))]), (stepS x0 s1.2)))
 ) else (
   some (.out (.go s1.1))
 )
noncomputable def gF (x0 : ByteArray) : Option ByteArray :=
 ((loopF (gF.loop1 x0) ([], 0)).bind fun f => flC f fun (v1 : List Int) =>
   some (runesBytes v1)
 )
end Go.Proofs
end
section
set_option maxRecDepth 100000
namespace Go.Proofs
open Go.Ab Go.Sort Go.Lib
def toL3 (x : Tb) : L3 := (x.fu, x.fOf.fc, x.fOf.ff)
theorem c3_toL3 (x : Tb) : c3 (toL3 x) = x.enc := rfl
theorem keys3_encM (m : List (Tb × Tf)) : keys3 (encM (vA Tb.enc) (vA Tf.enc) m) = (keysM m).map toL3 := by
 simp only [keys3, encM, keysM, List.map_map];exact List.map_congr_left fun e _ => rfl
theorem le3_toL3 (x y : Tb) : leLk x y = le3 (toL3 x) (toL3 y) := by
 refine Bool.eq_iff_iff.2 ?_;rw [le3, lt3];constructor
 ·intro h;have h := of_decide_eq_true h;rw [Bool.not_eq_true'];refine decide_eq_false ?_;simp only [toL3];omega
 ·intro h;refine decide_eq_true ?_;rw [Bool.not_eq_true'] at h;have h := of_decide_eq_false h;simp only [toL3] at h;omega
theorem srt3_toL3 (l : List Tb) : srt3 (l.map toL3) = (sortLk l).map toL3 :=
 (List.map_mergeSort (fun a _ b _ => le3_toL3 a b)).symm
@[simp] noncomputable def sortedLT (k c : Nat) : Sp
  | [.fn k' [.mp i], .lit v], M => (rdE M i).bind fun es => some { av := .sl ((sortLk (keysM (decM (dvA Tb.dec) (dvA Tf.dec) es))).map Tb.enc) .no, obl := k' = k ∧ v = .func (.func c) #[] #[] ∧ es = encM (vA Tb.enc) (vA Tf.enc) (decM (dvA Tb.dec) (dvA Tf.dec) es) ∧ Keys3B (keysM (decM (dvA Tb.dec) (dvA Tf.dec) es)) }
  | _, _ => none
theorem libKeys.gMapsKeysMapAccessLinkAccessSubAccessLinkAccessSub.ok : SpecOk Tryz.prog 43 (keysLS 93) := keysL_ok
theorem libSorted.gSlicesSortedFuncAccessLink.ok : SpecOk Tryz.prog 42 (sortedLT 93 44) := by
 intro l M out h;unfold sortedLT at h;split at h
 ·rename_i k' i v;obtain ⟨es, hM, h⟩ := bE h;cases h;intro g vs hM' sm hr ho;obtain ⟨rfl, rfl, he, hb⟩ := ho;generalize decM (dvA Tb.dec) (dvA Tf.dec) es = m at *
  subst he
  have hk : Keys3 (encM (vA Tb.enc) (vA Tf.enc) m) := fun e he => by
   obtain ⟨q, _, rfl⟩ := List.mem_map.1 he;rfl
  have hz : Keys3Z (keys3 (encM (vA Tb.enc) (vA Tf.enc) m)) := by
   rw [keys3_encM]; simpa [Keys3Z, Keys3B] using hb
  have q := sortedL_ok [.fn 93 [.mp i], .lit (.func (.func 44) #[] #[])] M { av := .sl ((srt3 (keys3 (encM (vA Tb.enc) (vA Tf.enc) m))).map c3) .no, obl := Keys3 (encM (vA Tb.enc) (vA Tf.enc) m) ∧ Keys3Z (keys3 (encM (vA Tb.enc) (vA Tf.enc) m)) ∧ 93 = 93 ∧ Value.func (.func 44) #[] #[] = Value.func (.func 44) #[] #[] } (by simp only [sortedLS, hM]) g vs hM' sm hr ⟨hk, hz, rfl, rfl⟩
  have e : (srt3 (keys3 (encM (vA Tb.enc) (vA Tf.enc) m))).map c3 = (sortLk (keysM m)).map Tb.enc := by
   rw [keys3_encM, srt3_toL3, List.map_map];exact List.map_congr_left fun x _ => c3_toL3 x
  rw [e] at q;exact q
 ·cases h
end Go.Proofs
end
section
namespace Go.Ab
open Go.Proofs Go.RowKit
@[simp] noncomputable def isLetterS : Sp
  | [.lit (.int .i32 r)], _ => some { av := .lit (.bool (letterR r)), obl := I32B r }
  | _, _ => none
@[simp] noncomputable def isDigitS : Sp
  | [.lit (.int .i32 r)], _ => some { av := .lit (.bool (digitR r)), obl := I32B r }
  | _, _ => none
@[simp] noncomputable def toLowerS : Sp
  | [.lit (.int .i32 r)], _ => some { av := .lit (.int .i32 (lowerR r)) }
  | _, _ => none
theorem ok_below {P : Program} {f : FuncId} {g : G} {vs : List Value} {v : Value} (hent : ∀ args w, (callFunc f args).run P w = .ok (.enter f args) w) (sm : Sim g)
  (hc : Calls P f vs.toArray g.w fun e w' => e = .returned v ∧ Below g.w.heap.size g.w w') {ob : Prop} : 
  (callFunc f vs.toArray).run P g.w = .ok (.enter f vs.toArray) g.w ∧ Calls P f vs.toArray g.w fun e w' => ∃ u, e = .returned u ∧ Post g { av := .lit v, obl := ob } u w' := by
 refine ⟨hent _ _, hc.mono ?_⟩;rintro e w' ⟨rfl, hb⟩;exact ⟨v, rfl, g.β, g.ρ, sim_below hb sm, .lit _, keep_below hb⟩
end Go.Ab
namespace Go.Proofs
open Go.RowKit Go.Ab
theorem gaI.ok : SpecOk Tryz.prog 136 isLetterS := by
 intro l M out h;unfold isLetterS at h;split at h
 ·rename_i r;cases h;intro g vs hM sm hr ho;cases hr with | cons hv hr => cases hr with | nil =>
  cases hv;exact ok_below (fun _ _ => by kernel_rfl) sm (Any.unicode_IsLetter_all Tryz.laysLetter Tryz.gaL r g.w ho.1 ho.2 sm.fct.here.1 sm.fct.here.2.1)
 ·cases h
theorem gaJ.ok : SpecOk Tryz.prog 137 isDigitS := by
 intro l M out h;unfold isDigitS at h;split at h
 ·rename_i r;cases h;intro g vs hM sm hr ho;cases hr with | cons hv hr => cases hr with | nil =>
  cases hv;exact ok_below (fun _ _ => by kernel_rfl) sm (Any.unicode_IsDigit_all Tryz.laysDigit r g.w ho.1 ho.2 sm.fct.here.2.2.1)
 ·cases h
theorem gaK.ok : SpecOk Tryz.prog 128 toLowerS := by
 intro l M out h;unfold toLowerS at h;split at h
 ·rename_i r;cases h;intro g vs hM sm hr ho;cases hr with | cons hv hr => cases hr with | nil =>
  cases hv;refine ok_below (fun _ _ => by kernel_rfl) sm ((Any.unicode_ToLower_laid Tryz.laysLower r g.w sm.fct.here.2.2.2).mono ?_);rintro e w' ⟨rfl, q, rfl⟩;exact ⟨rfl, below_drewN _ _⟩
 ·cases h
end Go.Proofs
end
section
namespace Go.Proofs
end Go.Proofs
namespace Go.Ab
open Go.Proofs
@[simp] theorem bel_opq (m : Nat) (φ : Opq) : (AObj.opq φ).bel m ↔ True := Iff.rfl
@[simp] theorem wrO_bs (T E : TypeId) (bs : List Int) : (wrO T E bs).bs = bs := rfl
@[simp] def wrTextS (T E : TypeId) : Sp
  | [.ptr i 0], M => match M[i]? with
    | some (.opq φ) => some { av := .lit (.string (strOfNums φ.bs)), M := some (M.set i (.opq wrX)), obl := φ = wrO T E φ.bs ∧ TextB φ.bs }
    | _ => none
  | _, _ => none
theorem bytes_of {bs : List Int} (h : ∀ x ∈ bs, 0 ≤ x ∧ x < 256) : bs.map (Value.int .u8) = Lib.byteCells (bs.map fun n => n.toNat.toUInt8) := by
 simp only [Lib.byteCells, List.map_map];refine List.map_congr_left fun x hx => ?_;obtain ⟨h1, h2⟩ := h x hx;simp only [Function.comp, Nat.toUInt8, UInt8.toNat_ofNat'];congr 1;omega
theorem textW_ok {P : Program} {f : FuncId} {T E : TypeId} (hent : ∀ args w, (callFunc f args).run P w = .ok (.enter f args) w)
  (hS : ∀ (b g cap : Nat) (w : World) (p : Value) (l : List UInt8) (cur : Array Value), w.heap[b]? = some (.cells #[p, .slice (some ⟨g, 0, none⟩) l.length cap] T (0, 0)) → w.heap[g]? = some (.cells cur E (0, 0)) →
   l.length ≤ cap → cap ≤ maxLen → cur.size = cap → cur.toList.take l.length = Lib.byteCells l → l ≠ [] →
   Calls P f #[.pointer (some ⟨b, 0, none⟩)] w fun e w' => e = .returned (.string ⟨l.toArray⟩) ∧ WrKeep b (some g) w w' ∧ w'.heap.size = w.heap.size) : SpecOk P f (wrTextS T E) := by
 intro l M out h;unfold wrTextS at h;split at h
 ·rename_i i;split at h
  ·rename_i φ hMi;cases h;intro g vs hM sm hr ho;subst hM;obtain ⟨hφ, hne, hbb⟩ := ho;cases hr with | cons hv hr => cases hr with | nil =>
   cases hv with
   | ptr _ _ hi =>
   refine ⟨hent _ _, ?_⟩;have hq := sm.opq i φ hMi;rw [hφ] at hq;obtain ⟨p, v, h1, h2, h3⟩ := hq;rcases h3 with ⟨_, h, _⟩ | ⟨cap, cur, rfl, h4, h5, h6, h7, h8, h9⟩
   ·exact absurd h hne
   generalize hl : φ.bs.map (fun n => n.toNat.toUInt8) = ls;have hll : ls.length = φ.bs.length := by rw [← hl]; simp
   have hb : φ.bs.map (Value.int .u8) = Lib.byteCells ls := by rw [← hl]; exact bytes_of hbb
   have hstr : (⟨ls.toArray⟩ : ByteArray) = strOfNums φ.bs := by
    rw [← hl]; rfl
   simp only [wrO] at h1 h5 h6 h9;refine (hS (g.β i) (g.ρ i).b cap g.w p ls cur (by rw [hll]; exact h1) h5 (by omega) h7 h8 (by rw [hll, ← hb]; exact h9) (fun e => hne (List.eq_nil_of_length_eq_zero (by rw [← hll, e]; rfl)))).mono ?_;rintro e w' ⟨rfl, k1, k2⟩;obtain ⟨kk, ss⟩ := opq_turn sm hMi (φ' := wrX) (w' := w') (rb := (g.ρ i).b) k1.size ⟨k1.os, k1.output⟩ (fun k q1 q2 q3 => k1.block k q1 q2 (by simpa using q3)) (.inl rfl) trivial;refine ⟨_, rfl, g.β, _, ss, ?_, kk⟩;rw [hstr];exact .lit _
  ·cases h
 ·cases h
end Go.Ab
end
section
namespace Go.Ab
theorem wrap64_of {n : Int} (h0 : -9223372036854775808 ≤ n) (h1 : n < 9223372036854775808) : IntKind.i64.wrap n = n := by
 rw [IntKind.wrap_i64]; omega
end Go.Ab
end
section
namespace Go.Ab
theorem eqI_d (a b : Int) : eqI a b = decide (a = b) := by
 unfold eqI; by_cases h : a = b <;> simp [h]
theorem neI_d (a b : Int) : neI a b = decide (a ≠ b) := by
 unfold neI; by_cases h : a = b <;> simp [h]
theorem ltI_d (a b : Int) : ltI a b = decide (a < b) := rfl
theorem leI_d (a b : Int) : leqI a b = decide (a ≤ b) := rfl
theorem eqI_t {a b : Int} (h : a = b) : eqI a b = true := by rw [eqI_d]; exact decide_eq_true h
theorem eqI_f {a b : Int} (h : a ≠ b) : eqI a b = false := by rw [eqI_d]; exact decide_eq_false h
theorem neI_t {a b : Int} (h : a ≠ b) : neI a b = true := by rw [neI_d]; exact decide_eq_true h
theorem neI_f {a b : Int} (h : a = b) : neI a b = false := by rw [neI_d]; exact decide_eq_false (fun q => q h)
theorem ltI_t {a b : Int} (h : a < b) : ltI a b = true := decide_eq_true h
theorem ltI_f {a b : Int} (h : ¬ a < b) : ltI a b = false := decide_eq_false h
theorem leI_t {a b : Int} (h : a ≤ b) : leqI a b = true := decide_eq_true h
theorem leI_f {a b : Int} (h : ¬ a ≤ b) : leqI a b = false := decide_eq_false h
theorem neB_d (a b : Bool) : neB a b = decide (a ≠ b) := by cases a <;> cases b <;> rfl
theorem notB_d (a : Bool) : notB a = !a := rfl
theorem pickB_and (x y : Bool) : pickB x y false = (x && y) := by cases x <;> rfl
theorem pickB_or (x y : Bool) : pickB x true y = (x || y) := by cases x <;> rfl
theorem minI_d (a b : Int) : minI a b = min a b := rfl
theorem maxI_d (a b : Int) : maxI a b = max a b := rfl
theorem addI_n {a b : Int} (h0 : -9223372036854775808 ≤ a + b) (h1 : a + b < 9223372036854775808) : addI .i64 a b = a + b := wrap64_of h0 h1
theorem subI_n {a b : Int} (h0 : -9223372036854775808 ≤ a - b) (h1 : a - b < 9223372036854775808) : subI .i64 a b = a - b := wrap64_of h0 h1
theorem mulI_n {a b : Int} (h0 : -9223372036854775808 ≤ a * b) (h1 : a * b < 9223372036854775808) : mulI .i64 a b = a * b := wrap64_of h0 h1
theorem Lh {α : Type} {p : Prop} {x : Option α} (h : p) : need p x = x := by unfold need; rw [if_pos h]
@[simp] theorem flC_go {V X : Type} (v : V) (k : V → Option X) : flC (.go v) k = k v := rfl
@[simp] theorem flC_out {V X : Type} (x : X) (k : V → Option X) : flC (.out x) k = some x := rfl
@[simp] theorem Lg {α β : Type} (x : α) (k : α → Option β) : (some x).bind k = k x := rfl
@[simp] theorem getD_so {α : Type} (x y : α) : (some x).getD y = x := rfl
theorem notB_t' : notB false = true := rfl
theorem notB_f' : notB true = false := rfl
def RoundP {S T : Type} (I : S → Prop) (Q : T → Prop) (μ : S → Nat) (s : S) : Option (Fl S T) → Prop
 | some (.go s') => I s' ∧ μ s' < μ s
 | some (.out t) => Q t
 | none => False
theorem loop_ends {S T : Type} {body : S → Option (Fl S T)} (I : S → Prop) (Q : T → Prop) (μ : S → Nat) (h : ∀ s, I s → RoundP I Q μ s (body s)) (s : S) (hs : I s) : ∃ t, loopF body s = some t ∧ Q t :=
 loopF_ends I Q μ (fun s hI => by
  have q := h s hI;cases hb : body s with
  | none => rw [hb] at q; exact q.elim
  | some f =>
    rw [hb] at q;refine ⟨f, rfl, ?_⟩;cases f <;> exact q) s hs
end Go.Ab
end
section
namespace Go.Ab
open Go.ChangeShapes Go.WideShapes Go.ChangeAt Go.RowKit
variable {H : Type} {enc : TypeId × Value → H} {P : Program}
end Go.Ab
end
