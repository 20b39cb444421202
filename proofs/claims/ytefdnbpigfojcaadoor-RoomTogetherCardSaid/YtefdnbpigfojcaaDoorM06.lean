/- unicode.IsLetter, IsDigit, ToLower as contracts on abstract values. No condition. -/
import Derived.Test.YtefdnbpigfojcaaDoorM03
import Derived.Test.YtefdnbpigfojcaaDoorTy
import Derived.Test.YtefdnbpigfojcaaDoorM01
import Derived.Test.YtefdnbpigfojcaaDoorAb8
import Derived.Test.YtefdnbpigfojcaaDoorTs
import Derived.Test.YtefdnbpigfojcaaDoorM08
import Derived.Test.YtefdnbpigfojcaaDoorM05
import Derived.Test.YtefdnbpigfojcaaDoorM10
section
namespace Go.Ab
open Go.Proofs Go.RowKit

@[simp] noncomputable def isLetterS : Sp
  | [.lit (.int .i32 r)], _ => some { av := .lit (.bool (letterR r)), obl := I32B r }
  | _, _ => none
@[simp] noncomputable def isDigitS : Sp
  | [.lit (.int .i32 r)], _ => some { av := .lit (.bool (digitR r)), obl := I32B r }
  | _, _ => none
@[simp] noncomputable def toLowerS : Sp
  | [.lit (.int .i32 r)], _ => some { av := .lit (.int .i32 (lowerR r)) }
  | _, _ => none

/-- A call that only makes blocks, and hands back a plain value. -/
theorem ok_below {P : Program} {f : FuncId} {g : G} {vs : List Value} {v : Value} (hent : ∀ args w, (callFunc f args).run P w = .ok (.enter f args) w) (sm : Sim g)
    (hc : Calls P f vs.toArray g.w fun e w' => e = .returned v ∧ Below g.w.heap.size g.w w') {ob : Prop} : 
    (callFunc f vs.toArray).run P g.w = .ok (.enter f vs.toArray) g.w ∧ Calls P f vs.toArray g.w fun e w' => ∃ u, e = .returned u ∧ Post g { av := .lit v, obl := ob } u w' := by
  refine ⟨hent _ _, hc.mono ?_⟩
  rintro e w' ⟨rfl, hb⟩
  exact ⟨v, rfl, g.β, g.ρ, sim_below hb sm, .lit _, keep_below hb⟩
end Go.Ab
namespace Go.Proofs
open Go.RowKit Go.Ab
theorem gIsLetter.ok : SpecOk Tryd.prog 39 isLetterS := by
  intro l M out h
  unfold isLetterS at h
  split at h
  · rename_i r
    cases h
    intro g vs hM sm hr ho
    cases hr with | cons hv hr => cases hr with | nil =>
    cases hv
    exact ok_below (fun _ _ => by kernel_rfl) sm (Any.unicode_IsLetter_all Tryd.laysLetter Tryd.gProps r g.w ho.1 ho.2 sm.fct.here.1 sm.fct.here.2.1)
  · cases h
theorem gIsDigit.ok : SpecOk Tryd.prog 40 isDigitS := by
  intro l M out h
  unfold isDigitS at h
  split at h
  · rename_i r
    cases h
    intro g vs hM sm hr ho
    cases hr with | cons hv hr => cases hr with | nil =>
    cases hv
    exact ok_below (fun _ _ => by kernel_rfl) sm (Any.unicode_IsDigit_all Tryd.laysDigit r g.w ho.1 ho.2 sm.fct.here.2.2.1)
  · cases h
theorem gToLower.ok : SpecOk Tryd.prog 29 toLowerS := by
  intro l M out h
  unfold toLowerS at h
  split at h
  · rename_i r
    cases h
    intro g vs hM sm hr ho
    cases hr with | cons hv hr => cases hr with | nil =>
    cases hv
    refine ok_below (fun _ _ => by kernel_rfl) sm ((Any.unicode_ToLower_laid Tryd.laysLower r g.w sm.fct.here.2.2.2).mono ?_)
    rintro e w' ⟨rfl, q, rfl⟩
    exact ⟨rfl, below_drewN _ _⟩
  · cases h
end Go.Proofs
end
section
namespace Go.Ab
theorem eqI_d (a b : Int) : eqI a b = decide (a = b) := by
  unfold eqI; by_cases h : a = b <;> simp [h]
theorem neI_d (a b : Int) : neI a b = decide (a ≠ b) := by
  unfold neI; by_cases h : a = b <;> simp [h]
theorem ltI_d (a b : Int) : ltI a b = decide (a < b) := rfl
theorem leI_d (a b : Int) : leqI a b = decide (a ≤ b) := rfl
theorem eqI_t {a b : Int} (h : a = b) : eqI a b = true := by rw [eqI_d]; exact decide_eq_true h
theorem eqI_f {a b : Int} (h : a ≠ b) : eqI a b = false := by rw [eqI_d]; exact decide_eq_false h
theorem neI_t {a b : Int} (h : a ≠ b) : neI a b = true := by rw [neI_d]; exact decide_eq_true h
theorem neI_f {a b : Int} (h : a = b) : neI a b = false := by rw [neI_d]; exact decide_eq_false (fun q => q h)
theorem ltI_t {a b : Int} (h : a < b) : ltI a b = true := decide_eq_true h
theorem ltI_f {a b : Int} (h : ¬ a < b) : ltI a b = false := decide_eq_false h
theorem leI_t {a b : Int} (h : a ≤ b) : leqI a b = true := decide_eq_true h
theorem leI_f {a b : Int} (h : ¬ a ≤ b) : leqI a b = false := decide_eq_false h
theorem eqB_d (a b : Bool) : eqB a b = decide (a = b) := by cases a <;> cases b <;> rfl
theorem neB_d (a b : Bool) : neB a b = decide (a ≠ b) := by cases a <;> cases b <;> rfl
theorem notB_d (a : Bool) : notB a = !a := rfl
theorem pickB_and (x y : Bool) : pickB x y false = (x && y) := by cases x <;> rfl
theorem pickB_or (x y : Bool) : pickB x true y = (x || y) := by cases x <;> rfl
theorem minI_d (a b : Int) : minI a b = min a b := rfl
theorem maxI_d (a b : Int) : maxI a b = max a b := rfl
theorem addI_n {a b : Int} (h0 : -9223372036854775808 ≤ a + b) (h1 : a + b < 9223372036854775808) : addI .i64 a b = a + b := wrap64_of h0 h1
theorem subI_n {a b : Int} (h0 : -9223372036854775808 ≤ a - b) (h1 : a - b < 9223372036854775808) : subI .i64 a b = a - b := wrap64_of h0 h1
theorem mulI_n {a b : Int} (h0 : -9223372036854775808 ≤ a * b) (h1 : a * b < 9223372036854775808) : mulI .i64 a b = a * b := wrap64_of h0 h1
theorem tdiv_bounds {a b : Int} (h : 0 ≤ a) (hb : 0 < b) : 0 ≤ a.tdiv b ∧ a.tdiv b ≤ a := by
  rw [Int.tdiv_eq_ediv_of_nonneg h]
  exact ⟨Int.ediv_nonneg h (by omega), Int.ediv_le_self _ h⟩
theorem quoI_n {a b : Int} (h : 0 ≤ a) (h2 : a < 9223372036854775808) (hb : 0 < b) : quoI .i64 a b = a / b := by
  have := tdiv_bounds h hb
  unfold quoI
  rw [wrap64_of (by omega) (by omega), Int.tdiv_eq_ediv_of_nonneg h]
theorem need_t {α : Type} {p : Prop} {x : Option α} (h : p) : need p x = x := by unfold need; rw [if_pos h]
@[simp] theorem need_true {α : Type} (x : Option α) : need True x = x := need_t trivial
@[simp] theorem flC_go {V X : Type} (v : V) (k : V → Option X) : flC (.go v) k = k v := rfl
@[simp] theorem flC_out {V X : Type} (x : X) (k : V → Option X) : flC (.out x) k = some x := rfl
@[simp] theorem bind_so {α β : Type} (x : α) (k : α → Option β) : (some x).bind k = k x := rfl
@[simp] theorem getD_so {α : Type} (x y : α) : (some x).getD y = x := rfl
theorem under_iff {e : Bool} {b : Bool} {p : Prop} : Under e b p ↔ (e = b → p) := Iff.rfl
theorem under_of {e : Bool} {b : Bool} {p : Prop} (h : p) : Under e b p := fun _ => h
theorem InB_iff {n m : Int} : InB n m ↔ 0 ≤ n ∧ n < m := Iff.rfl
theorem lenL_nn {α : Type} (l : List α) : 0 ≤ lenL l := by unfold lenL; omega
theorem optC_none {α β : Type} (x : α) (k : β → α) : optC (none : Option β) x k = x := rfl
theorem optC_some {α β : Type} (b : β) (x : α) (k : β → α) : optC (some b) x k = k b := rfl
theorem notB_t' : notB false = true := rfl
theorem notB_f' : notB true = false := rfl
/-- What a round must come to. -/
def RoundP {S T : Type} (I : S → Prop) (Q : T → Prop) (μ : S → Nat) (s : S) : Option (Fl S T) → Prop
  | some (.go s') => I s' ∧ μ s' < μ s
  | some (.out t) => Q t
  | none => False
theorem loop_ends {S T : Type} {body : S → Option (Fl S T)} (I : S → Prop) (Q : T → Prop) (μ : S → Nat) (h : ∀ s, I s → RoundP I Q μ s (body s)) (s : S) (hs : I s) : ∃ t, loopF body s = some t ∧ Q t :=
  loopF_ends I Q μ (fun s hI => by
    have q := h s hI
    cases hb : body s with
    | none => rw [hb] at q; exact q.elim
    | some f =>
      rw [hb] at q
      refine ⟨f, rfl, ?_⟩
      cases f <;> exact q) s hs
end Go.Ab
end
section
namespace Go.Proofs
open Go.Ab
noncomputable def gLaw12RoomNames (x0 : ByteArray) (x1 : ByteArray) (x2 : ByteArray) : Option Bool :=
  ((gLaw01Cut x0 60)).bind fun r1 =>
  ((gLaw01Cut x1 60)).bind fun r2 =>
  ((gLaw01Cut x2 60)).bind fun r3 =>
  (gLaw12Awake).bind fun r4 =>
  need (Under (notB r4) false ((gRef06Good r1).isSome = true)) <|
  need (Under (pickB (notB r4) true (notB ((gRef06Good r1).getD dflt))) false ((gRef06Good r2).isSome = true)) <|
  need (Under (pickB (pickB (notB r4) true (notB ((gRef06Good r1).getD dflt))) true (notB ((gRef06Good r2).getD dflt))) false ((gRef06Good r3).isSome = true)) <|
  bif (pickB (pickB (pickB (notB r4) true (notB ((gRef06Good r1).getD dflt))) true (notB ((gRef06Good r2).getD dflt))) true (notB ((gRef06Good r3).getD dflt))) then (
    some r4
  ) else (
    (gRoomNew).bind fun r5 =>
    ((gRoomTableJoin r5 r1 r2)).bind fun r6 =>
    ((gRef06Fold r1)).bind fun r7 =>
    ((gRoomTableJoin r6.2.2 r7 r3)).bind fun r8 =>
    ((gRef06Fold r2)).bind fun r9 =>
    ((gRef06Fold r3)).bind fun r10 =>
    ((gRef06Fold r7)).bind fun r11 =>
    bif (neS r11 r7) then (
      some (eqI r6.2.1 0)
    ) else (
      need (Under (pickB (pickB (eqI r6.2.1 0) (eqB (eqI r8.2.1 10) (eqS r9 r10)) false) (eqB (eqI r8.2.1 0) (notB (eqS r9 r10))) false) true ((gRoomTableRooms r8.2.2).isSome = true)) <|
      some (pickB (pickB (pickB (eqI r6.2.1 0) (eqB (eqI r8.2.1 10) (eqS r9 r10)) false) (eqB (eqI r8.2.1 0) (notB (eqS r9 r10))) false) (eqI (lenL ((gRoomTableRooms r8.2.2).getD dflt)) 1) false)
    )
  )
end Go.Proofs
end
