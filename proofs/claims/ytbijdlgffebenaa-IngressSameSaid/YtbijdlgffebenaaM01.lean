/- What these functions compute, as plain functions. No condition. -/
import Derived.Test.YtbijdlgffebenaaTs
import Derived.Test.YtbijdlgffebenaaM07
import Derived.Test.YtbijdlgffebenaaAb8
section
namespace Go.Proofs
open Go.Ab
noncomputable def gFrameMakerOpen (x0 : FrameMaker) : Option Int :=
  some (lenL x0.fOpen.fUnits)

noncomputable def gFrameFrameKey (x0 : FrameFrame) : Option Bool :=
  need (Under (ltI 0 (lenL x0.fUnits)) true (InB 0 (lenL x0.fUnits))) <|
  some (pickB (ltI 0 (lenL x0.fUnits)) ((nthI x0.fUnits 0).fKey) false)

noncomputable def gFrameFrameSize.loop1 (x0 : FrameFrame) (s1 : Int × Int) : Option (Fl (Int × Int) (Fl Int Int)) :=
  bif (ltI s1.1 (lenL x0.fUnits)) then (
    need (InB s1.1 (lenL x0.fUnits)) <|
    some (.go ((addI .i64 s1.1 1), (addI .i64 s1.2 (lenS ((nthI x0.fUnits s1.1).fText)))))
  ) else (
    some (.out (.go s1.2))
  )

noncomputable def gFrameFrameSize (x0 : FrameFrame) : Option Int :=
  ((loopF (gFrameFrameSize.loop1 x0) (0, 0)).bind fun f => flC f fun (v1 : Int) =>
    some v1
  )

noncomputable def gFrameConfigCheck (x0 : FrameConfig) : Option Int :=
  bif (pickB (pickB (pickB (pickB (pickB (ltI x0.fBytes 1) true (ltI 1048576 x0.fBytes)) true (ltI x0.fUnits 1)) true (ltI 1024 x0.fUnits)) true (ltI x0.fWait 0)) true (ltI 1099511627776 x0.fWait)) then (
    some 5
  ) else (
    some 0
  )

noncomputable def gFrameMakerDrop (x0 : FrameMaker) : Option FrameMaker :=
  ((gFrameMakerOpen x0)).bind fun r1 =>
  some (FrameMaker.mk x0.fConfig (FrameFrame.mk []) x0.fWhole (addI .i64 x0.fLost r1))

noncomputable def gFrameMakerFollows (x0 : FrameMaker) (x1 : Antiphonref10Unit) : Option Bool :=
  ((gFrameMakerOpen x0)).bind fun r1 =>
  bif (eqI r1 0) then (
    some false
  ) else (
    need (InB (subI .i64 r1 1) (lenL x0.fOpen.fUnits)) <|
    some (pickB (pickB (eqI x1.fAt (addI .i64 ((nthI x0.fOpen.fUnits (subI .i64 r1 1)).fAt) 1)) (eqI x1.fTime ((nthI x0.fOpen.fUnits (subI .i64 r1 1)).fTime)) false) (notB x1.fStart) false)
  )

noncomputable def gFrameNew (x0 : FrameConfig) : Option (Option FrameMaker × Int) :=
  ((gFrameConfigCheck x0)).bind fun r1 =>
  bif (neI r1 0) then (
    some (none, r1)
  ) else (
    some ((some (FrameMaker.mk x0 (FrameFrame.mk []) 0 0)), 0)
  )

noncomputable def gFrameMakerPut (x0 : FrameMaker) (x1 : Antiphonref10Unit) : Option (FrameFrame × Bool × FrameMaker) :=
  ((
    ((gFrameMakerFollows x0 x1)).bind fun r1 =>
    bif (notB r1) then (
      ((gFrameMakerDrop x0)).bind fun r2 =>
      bif (pickB r2.fConfig.fVideo (notB x1.fStart) false) then (
        some (.out ((FrameFrame.mk []), false, (FrameMaker.mk r2.fConfig r2.fOpen r2.fWhole (addI .i64 r2.fLost 1))))
      ) else (
        some (.go r2)
      )
    ) else (
      some (.go x0)
    )
    : Option (Fl FrameMaker (FrameFrame × Bool × FrameMaker))).bind fun f => flC f fun (v1 : FrameMaker) =>
    need (AppB 0 (lenL v1.fOpen.fUnits) 48) <|
    need (AppB (lenL v1.fOpen.fUnits) 1 48) <|
    ((gFrameMakerOpen (FrameMaker.mk v1.fConfig (FrameFrame.mk (appL v1.fOpen.fUnits [x1])) v1.fWhole v1.fLost))).bind fun r3 =>
    need (Under (ltI v1.fConfig.fUnits r3) false ((gFrameFrameSize (FrameFrame.mk (appL v1.fOpen.fUnits [x1]))).isSome = true)) <|
    bif (pickB (ltI v1.fConfig.fUnits r3) true (ltI v1.fConfig.fBytes ((gFrameFrameSize (FrameFrame.mk (appL v1.fOpen.fUnits [x1]))).getD dflt))) then (
      ((gFrameMakerDrop (FrameMaker.mk v1.fConfig (FrameFrame.mk (appL v1.fOpen.fUnits [x1])) v1.fWhole v1.fLost))).bind fun r4 =>
      some ((FrameFrame.mk []), false, r4)
    ) else (
      bif (pickB v1.fConfig.fVideo (notB x1.fMarker) false) then (
        some ((FrameFrame.mk []), false, (FrameMaker.mk v1.fConfig (FrameFrame.mk (appL v1.fOpen.fUnits [x1])) v1.fWhole v1.fLost))
      ) else (
        some ((FrameFrame.mk (appL v1.fOpen.fUnits [x1])), true, (FrameMaker.mk v1.fConfig (FrameFrame.mk []) (addI .i64 v1.fWhole 1) v1.fLost))
      )
    )
  )
end Go.Proofs
end
section
namespace Go.Ab
theorem eqI_d (a b : Int) : eqI a b = decide (a = b) := by
  unfold eqI; by_cases h : a = b <;> simp [h]
theorem neI_d (a b : Int) : neI a b = decide (a ≠ b) := by
  unfold neI; by_cases h : a = b <;> simp [h]
theorem ltI_d (a b : Int) : ltI a b = decide (a < b) := rfl
theorem leI_d (a b : Int) : leqI a b = decide (a ≤ b) := rfl
theorem eqI_t {a b : Int} (h : a = b) : eqI a b = true := by rw [eqI_d]; exact decide_eq_true h
theorem eqI_f {a b : Int} (h : a ≠ b) : eqI a b = false := by rw [eqI_d]; exact decide_eq_false h
theorem neI_f {a b : Int} (h : a = b) : neI a b = false := by rw [neI_d]; exact decide_eq_false (fun q => q h)
theorem ltI_t {a b : Int} (h : a < b) : ltI a b = true := decide_eq_true h
theorem ltI_f {a b : Int} (h : ¬ a < b) : ltI a b = false := decide_eq_false h
theorem neB_d (a b : Bool) : neB a b = decide (a ≠ b) := by cases a <;> cases b <;> rfl
theorem notB_d (a : Bool) : notB a = !a := rfl
theorem pickB_and (x y : Bool) : pickB x y false = (x && y) := by cases x <;> rfl
theorem pickB_or (x y : Bool) : pickB x true y = (x || y) := by cases x <;> rfl
theorem minI_d (a b : Int) : minI a b = min a b := rfl
theorem addI_n {a b : Int} (h0 : -9223372036854775808 ≤ a + b) (h1 : a + b < 9223372036854775808) : addI .i64 a b = a + b := wrap64_of h0 h1
theorem subI_n {a b : Int} (h0 : -9223372036854775808 ≤ a - b) (h1 : a - b < 9223372036854775808) : subI .i64 a b = a - b := wrap64_of h0 h1
theorem mulI_n {a b : Int} (h0 : -9223372036854775808 ≤ a * b) (h1 : a * b < 9223372036854775808) : mulI .i64 a b = a * b := wrap64_of h0 h1
theorem tdiv_bounds {a b : Int} (h : 0 ≤ a) (hb : 0 < b) : 0 ≤ a.tdiv b ∧ a.tdiv b ≤ a := by
  rw [Int.tdiv_eq_ediv_of_nonneg h]
  exact ⟨Int.ediv_nonneg h (by omega), Int.ediv_le_self _ h⟩
theorem quoI_n {a b : Int} (h : 0 ≤ a) (h2 : a < 9223372036854775808) (hb : 0 < b) : quoI .i64 a b = a / b := by
  have := tdiv_bounds h hb
  unfold quoI
  rw [wrap64_of (by omega) (by omega), Int.tdiv_eq_ediv_of_nonneg h]
theorem need_t {α : Type} {p : Prop} {x : Option α} (h : p) : need p x = x := by unfold need; rw [if_pos h]
@[simp] theorem need_true {α : Type} (x : Option α) : need True x = x := need_t trivial
@[simp] theorem flC_go {V X : Type} (v : V) (k : V → Option X) : flC (.go v) k = k v := rfl
@[simp] theorem flC_out {V X : Type} (x : X) (k : V → Option X) : flC (.out x) k = some x := rfl
@[simp] theorem bind_so {α β : Type} (x : α) (k : α → Option β) : (some x).bind k = k x := rfl
@[simp] theorem getD_so {α : Type} (x y : α) : (some x).getD y = x := rfl
theorem under_of {e : Bool} {b : Bool} {p : Prop} (h : p) : Under e b p := fun _ => h
theorem lenL_nn {α : Type} (l : List α) : 0 ≤ lenL l := by unfold lenL; omega
theorem optC_some {α β : Type} (b : β) (x : α) (k : β → α) : optC (some b) x k = k b := rfl
theorem notB_t' : notB false = true := rfl
theorem notB_f' : notB true = false := rfl
/-- What a round must come to. -/
def RoundP {S T : Type} (I : S → Prop) (Q : T → Prop) (μ : S → Nat) (s : S) : Option (Fl S T) → Prop
  | some (.go s') => I s' ∧ μ s' < μ s
  | some (.out t) => Q t
  | none => False
theorem loop_ends {S T : Type} {body : S → Option (Fl S T)} (I : S → Prop) (Q : T → Prop) (μ : S → Nat) (h : ∀ s, I s → RoundP I Q μ s (body s)) (s : S) (hs : I s) : ∃ t, loopF body s = some t ∧ Q t :=
  loopF_ends I Q μ (fun s hI => by
    have q := h s hI
    cases hb : body s with
    | none => rw [hb] at q; exact q.elim
    | some f =>
      rw [hb] at q
      refine ⟨f, rfl, ?_⟩
      cases f <;> exact q) s hs
end Go.Ab
end
