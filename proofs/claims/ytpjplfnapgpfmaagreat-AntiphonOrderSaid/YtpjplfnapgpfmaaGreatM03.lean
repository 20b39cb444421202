/- What these functions compute, as plain functions. No condition. -/
import Derived.Test.YtpjplfnapgpfmaaGreatTs
import Derived.Test.YtpjplfnapgpfmaaGreatM10
import Derived.Test.YtpjplfnapgpfmaaGreatM08
import Derived.Test.YtpjplfnapgpfmaaGreatM05
import Derived.Test.YtpjplfnapgpfmaaGreatAb8
import Derived.Test.YtpjplfnapgpfmaaGreatKl
section
namespace Go.Proofs
open Go.Ab
noncomputable def gaA (x0 : Tu) (x1 : Tq) : Option (Tu × Bool) :=
 bif (eqI x1.fz 5) then (
  ((gT x0.fO x1.fId x1.fu x1.fN)).bind fun r1 =>
  ((gat x0.fX x1.fId x1.fu x1.fN)).bind fun r2 =>
  some ((Tu.mk r1.2 r2.1 x0.fA x0.fN), (eqI r1.1 r2.2))
 ) else (
   bif (eqI x1.fz 6) then (
    ((gG x0.fO x1.fId)).bind fun r3 =>
    ((gaE x0.fX x1.fId)).bind fun r4 =>
    need (Under (eqI r3.2.1 r4.2.2) true ((gQ r3.1 r4.2.1).isSome = true)) <|
    some ((Tu.mk r3.2.2 r4.1 x0.fA x0.fN), (pickB (eqI r3.2.1 r4.2.2) (eqI ((gQ r3.1 r4.2.1).getD dflt) 0) false))
   ) else (
     ((gad x0.fO x1.fId)).bind fun r5 =>
     ((gaH x0.fX x1.fId)).bind fun r6 =>
     ((gQ r5.1 r6.2)).bind fun r7 =>
     some ((Tu.mk r5.2 r6.1 x0.fA x0.fN), (eqI r7 0))
   )
 )

noncomputable def gO (x0 : Tu) (x1 : Tq) : Option (Tu × List Tb × Bool) :=
 ((
  bif (eqI x1.fz 1) then (
   ((gap x0.fO x1.fId (Ta.mk (addI .i64 x0.fN 1) x1.fN x0.fA x1.fy))).bind fun r1 =>
   ((gaN x0.fX x1.fId (Ta.mk (addI .i64 x0.fN 1) x1.fN x0.fA x1.fy))).bind fun r2 =>
   need (Under (eqB r1.2.1 r2.2.2) true ((gQ r1.1 r2.2.1).isSome = true)) <|
   some (.out ((Tu.mk r1.2.2 r2.1 x0.fA (addI .i64 x0.fN 1)), [], (pickB (eqB r1.2.1 r2.2.2) (eqI ((gQ r1.1 r2.2.1).getD dflt) 0) false)))
  ) else (
    bif (eqI x1.fz 2) then (
     ((
      bif x1.fy then (
       ((gaa x0.fO x1.fId)).bind fun r3 =>
       bif (neB r3.1 (pickB (leqI 0 x1.fId) (leqI x1.fId x0.fX.fc) false)) then (
        some (.out (.out ((Tu.mk r3.2 x0.fX x0.fA x0.fN), [], false)))
       ) else (
         bif r3.1 then (
          some (.go (r3.2.fe, r3.2.fc, r3.2.ff, r3.2.fh, r3.2.fa.fb, r3.2.fa.fAt, r3.2.fa.fg, r3.2.fa.fk, r3.2.fa.fp, (Tc.mk x0.fX.fd x0.fX.fm x0.fX.fq x0.fX.fb x0.fX.fo x0.fX.fL x0.fX.fS (subI .i64 x0.fX.fc x1.fId) x0.fX.ff), (Tq.mk x1.fz x1.fId x1.fN true x1.fu)))
         ) else (
           some (.go (r3.2.fe, r3.2.fc, r3.2.ff, r3.2.fh, r3.2.fa.fb, r3.2.fa.fAt, r3.2.fa.fg, r3.2.fa.fk, r3.2.fa.fp, x0.fX, (Tq.mk x1.fz x1.fId x1.fN true x1.fu)))
         )
       )
      ) else (
        some (.go (x0.fO.fe, x0.fO.fc, x0.fO.ff, x0.fO.fh, x0.fO.fa.fb, x0.fO.fa.fAt, x0.fO.fa.fg, x0.fO.fa.fk, x0.fO.fa.fp, x0.fX, (Tq.mk x1.fz x1.fId x1.fN false x1.fu)))
      )
      : Option (Fl (Tt × Int × Int × (List (Int × Tk)) × Int × Int × Bool × (List (Int × Int)) × (List (Int × Int)) × Tc × Tq) (Fl (Tt × Int × Int × (List (Int × Tk)) × Int × Int × Bool × (List (Int × Int)) × (List (Int × Int)) × Tc × Tq) (Tu × List Tb × Bool)))).bind fun f => flC f fun (v2 : Tt × Int × Int × (List (Int × Tk)) × Int × Int × Bool × (List (Int × Int)) × (List (Int × Int)) × Tc × Tq) =>
      ((gak (Th.mk v2.1 v2.2.2.2.1 (Tp.mk v2.2.2.2.2.1 v2.2.2.2.2.2.2.2.1 v2.2.2.2.2.2.2.2.2.1 v2.2.2.2.2.2.1 v2.2.2.2.2.2.2.1) v2.2.1 v2.2.2.1) v2.2.2.2.2.2.2.2.2.2.2.fN)).bind fun r4 =>
      some (.go (r4.fe, r4.fc, r4.ff, r4.fh, r4.fa.fb, r4.fa.fAt, r4.fa.fg, r4.fa.fk, r4.fa.fp, (Tc.mk v2.2.2.2.2.2.2.2.2.2.1.fd v2.2.2.2.2.2.2.2.2.2.1.fm v2.2.2.2.2.2.2.2.2.2.1.fq v2.2.2.2.2.2.2.2.2.2.1.fb v2.2.2.2.2.2.2.2.2.2.1.fo v2.2.2.2.2.2.2.2.2.2.1.fL v2.2.2.2.2.2.2.2.2.2.1.fS (minI (addI .i64 v2.2.2.2.2.2.2.2.2.2.1.fc (minI (maxI v2.2.2.2.2.2.2.2.2.2.2.fN 0) 1099511627776)) 1099511627776) v2.2.2.2.2.2.2.2.2.2.1.ff), v2.2.2.2.2.2.2.2.2.2.2))
     )
    ) else (
      bif (eqI x1.fz 3) then (
       ((gv x0.fO)).bind fun r5 =>
       ((gai x0.fX)).bind fun r6 =>
       ((gQ r5.1 r6.2)).bind fun r7 =>
       some (.out ((Tu.mk r5.2 r6.1 x0.fA x0.fN), r6.2, (eqI r7 0)))
      ) else (
        bif (eqI x1.fz 4) then (
         ((gA x0.fO (addI .i64 x0.fA (bitsOp .and .i64 x1.fN 15)))).bind fun r8 =>
         ((gas x0.fX (addI .i64 x0.fA (bitsOp .and .i64 x1.fN 15)))).bind fun r9 =>
         ((gQ r8.1 r9.2)).bind fun r10 =>
         some (.out ((Tu.mk r8.2 r9.1 (addI .i64 x0.fA (bitsOp .and .i64 x1.fN 15)) x0.fN), [], (eqI r10 0)))
        ) else (
          ((
           bif (eqI x1.fz 5) then (
            some (.go true)
           ) else (
             bif (eqI x1.fz 6) then (
              some (.go true)
             ) else (
               some (.go (eqI x1.fz 7))
             )
           )
           : Option (Fl Bool (Fl (Tt × Int × Int × (List (Int × Tk)) × Int × Int × Bool × (List (Int × Int)) × (List (Int × Int)) × Tc × Tq) (Tu × List Tb × Bool)))).bind fun f => flC f fun (v3 : Bool) =>
           bif v3 then (
            ((gaA x0 x1)).bind fun r11 =>
            some (.out (r11.1, [], r11.2))
           ) else (
             some (.go (x0.fO.fe, x0.fO.fc, x0.fO.ff, x0.fO.fh, x0.fO.fa.fb, x0.fO.fa.fAt, x0.fO.fa.fg, x0.fO.fa.fk, x0.fO.fa.fp, x0.fX, x1))
           )
          )
        )
      )
    )
  )
  : Option (Fl (Tt × Int × Int × (List (Int × Tk)) × Int × Int × Bool × (List (Int × Int)) × (List (Int × Int)) × Tc × Tq) (Tu × List Tb × Bool))).bind fun f => flC f fun (v1 : Tt × Int × Int × (List (Int × Tk)) × Int × Int × Bool × (List (Int × Int)) × (List (Int × Int)) × Tc × Tq) =>
  some ((Tu.mk (Th.mk v1.1 v1.2.2.2.1 (Tp.mk v1.2.2.2.2.1 v1.2.2.2.2.2.2.2.1 v1.2.2.2.2.2.2.2.2.1 v1.2.2.2.2.2.1 v1.2.2.2.2.2.2.1) v1.2.1 v1.2.2.1) v1.2.2.2.2.2.2.2.2.2.1 x0.fA x0.fN), [], true)
 )
end Go.Proofs
end
section
namespace Go.Ab
theorem eqI_d (a b : Int) : eqI a b = decide (a = b) := by
 unfold eqI; by_cases h : a = b <;> simp [h]
theorem neI_d (a b : Int) : neI a b = decide (a ≠ b) := by
 unfold neI; by_cases h : a = b <;> simp [h]
theorem ltI_d (a b : Int) : ltI a b = decide (a < b) := rfl
theorem leI_d (a b : Int) : leqI a b = decide (a ≤ b) := rfl
theorem eqI_t {a b : Int} (h : a = b) : eqI a b = true := by rw [eqI_d]; exact decide_eq_true h
theorem eqI_f {a b : Int} (h : a ≠ b) : eqI a b = false := by rw [eqI_d]; exact decide_eq_false h
theorem neI_t {a b : Int} (h : a ≠ b) : neI a b = true := by rw [neI_d]; exact decide_eq_true h
theorem neI_f {a b : Int} (h : a = b) : neI a b = false := by rw [neI_d]; exact decide_eq_false (fun q => q h)
theorem ltI_t {a b : Int} (h : a < b) : ltI a b = true := decide_eq_true h
theorem ltI_f {a b : Int} (h : ¬ a < b) : ltI a b = false := decide_eq_false h
theorem leI_t {a b : Int} (h : a ≤ b) : leqI a b = true := decide_eq_true h
theorem leI_f {a b : Int} (h : ¬ a ≤ b) : leqI a b = false := decide_eq_false h
theorem eqB_d (a b : Bool) : eqB a b = decide (a = b) := by cases a <;> cases b <;> rfl
theorem pickB_and (x y : Bool) : pickB x y false = (x && y) := by cases x <;> rfl
theorem pickB_or (x y : Bool) : pickB x true y = (x || y) := by cases x <;> rfl
theorem minI_d (a b : Int) : minI a b = min a b := rfl
theorem maxI_d (a b : Int) : maxI a b = max a b := rfl
theorem addI_n {a b : Int} (h0 : -9223372036854775808 ≤ a + b) (h1 : a + b < 9223372036854775808) : addI .i64 a b = a + b := wrap64_of h0 h1
theorem subI_n {a b : Int} (h0 : -9223372036854775808 ≤ a - b) (h1 : a - b < 9223372036854775808) : subI .i64 a b = a - b := wrap64_of h0 h1
theorem mulI_n {a b : Int} (h0 : -9223372036854775808 ≤ a * b) (h1 : a * b < 9223372036854775808) : mulI .i64 a b = a * b := wrap64_of h0 h1
theorem Lf {α : Type} {p : Prop} {x : Option α} (h : p) : need p x = x := by unfold need; rw [if_pos h]
@[simp] theorem flC_go {V X : Type} (v : V) (k : V → Option X) : flC (.go v) k = k v := rfl
@[simp] theorem flC_out {V X : Type} (x : X) (k : V → Option X) : flC (.out x) k = some x := rfl
@[simp] theorem Ld {α β : Type} (x : α) (k : α → Option β) : (some x).bind k = k x := rfl
@[simp] theorem getD_so {α : Type} (x y : α) : (some x).getD y = x := rfl
theorem under_of {e : Bool} {b : Bool} {p : Prop} (h : p) : Under e b p := fun _ => h
theorem lenL_nn {α : Type} (l : List α) : 0 ≤ lenL l := by unfold lenL; omega
theorem optC_none {α β : Type} (x : α) (k : β → α) : optC (none : Option β) x k = x := rfl
theorem optC_some {α β : Type} (b : β) (x : α) (k : β → α) : optC (some b) x k = k b := rfl
theorem notB_t' : notB false = true := rfl
theorem notB_f' : notB true = false := rfl
def RoundP {S T : Type} (I : S → Prop) (Q : T → Prop) (μ : S → Nat) (s : S) : Option (Fl S T) → Prop
 | some (.go s') => I s' ∧ μ s' < μ s
 | some (.out t) => Q t
 | none => False
theorem loop_ends {S T : Type} {body : S → Option (Fl S T)} (I : S → Prop) (Q : T → Prop) (μ : S → Nat) (h : ∀ s, I s → RoundP I Q μ s (body s)) (s : S) (hs : I s) : ∃ t, loopF body s = some t ∧ Q t :=
 loopF_ends I Q μ (fun s hI => by
  have q := h s hI
  cases hb : body s with
  | none => rw [hb] at q; exact q.elim
  | some f =>
    rw [hb] at q
    refine ⟨f, rfl, ?_⟩
    cases f <;> exact q) s hs
end Go.Ab
end
section
namespace Go.Proofs
open Go.Ab
variable {V : Type}

theorem hasM_iff {k : Int} : ∀ {m : List (Int × V)}, hasM eqI k m = true ↔ k ∈ keysM m
 | [] => by simp [hasM, keysM]
 | e :: r => by
   have ih := hasM_iff (k := k) (m := r)
   simp only [hasM, keysM, List.map_cons, List.mem_cons]
   by_cases h : k = e.1
   ·rw [eqI_t h]; simp [pickB, h]
   ·rw [eqI_f h]; simp only [pickB, cond_false, h, false_or]; exact ih
theorem hasM_t {k : Int} {m : List (Int × V)} (h : k ∈ keysM m) : hasM eqI k m = true := hasM_iff.2 h
theorem hasM_f {k : Int} {m : List (Int × V)} (h : k ∉ keysM m) : hasM eqI k m = false := by
 cases hh : hasM eqI k m with
 | false => rfl
 | true => exact absurd (hasM_iff.1 hh) h

theorem getM_of {k : Int} {v z : V} : ∀ {m : List (Int × V)}, (keysM m).Nodup → (k, v) ∈ m → getM eqI k z m = v
 | e :: r, hn, h => by
   simp only [keysM, List.map_cons, List.nodup_cons] at hn
   simp only [getM]
   cases h with
   | head => rw [eqI_t rfl]; rfl
   | tail _ h =>
     have hne : k ≠ e.1 := fun q => hn.1 (List.mem_map.2 ⟨(k, v), h, q⟩)
     rw [eqI_f hne]
     simp only [Bool.false_eq_true, if_false]
     exact getM_of hn.2 h
theorem getM_no {k : Int} {z : V} : ∀ {m : List (Int × V)}, k ∉ keysM m → getM eqI k z m = z
 | [], _ => rfl
 | e :: r, h => by
   simp only [keysM, List.map_cons, List.mem_cons, not_or] at h
   simp only [getM, eqI_f h.1, Bool.false_eq_true, if_false]
   exact getM_no h.2

theorem setM_no {k : Int} {v : V} : ∀ {m : List (Int × V)}, k ∉ keysM m → setM eqI k v m = m ++ [(k, v)]
 | [], _ => rfl
 | e :: r, h => by
   simp only [keysM, List.map_cons, List.mem_cons, not_or] at h
   simp only [setM, eqI_f h.1, Bool.false_eq_true, if_false, List.cons_append]
   rw [setM_no h.2]

theorem delM_perm {k : Int} {v : V} : ∀ {m : List (Int × V)}, (keysM m).Nodup → (k, v) ∈ m → m.Perm ((k, v) :: delM eqI k m)
 | e :: r, hn, h => by
   simp only [keysM, List.map_cons, List.nodup_cons] at hn
   simp only [delM]
   cases h with
   | head => rw [eqI_t rfl]; exact List.Perm.refl _
   | tail _ h =>
     have hne : k ≠ e.1 := fun q => hn.1 (List.mem_map.2 ⟨(k, v), h, q⟩)
     rw [eqI_f hne]
     simp only [Bool.false_eq_true, if_false]
     exact ((delM_perm hn.2 h).cons e).trans (List.Perm.swap _ _ _)
theorem delM_of {k : Int} {v : V} {m r : List (Int × V)} (hn : (keysM m).Nodup) (hp : m.Perm ((k, v) :: r)) : (delM eqI k m).Perm r :=
 ((delM_perm hn (hp.mem_iff.2 (.head _))).symm.trans hp).cons_inv
theorem keysM_perm {m m' : List (Int × V)} (h : m.Perm m') : (keysM m).Perm (keysM m') := h.map _
theorem sortL_of {l l' : List Int} (h : l.Perm l') (hs : l'.Pairwise (· ≤ ·)) : sortL l = l' := by
 unfold sortL
 refine List.Perm.eq_of_pairwise (le := fun a b => a ≤ b) (fun a b _ _ h1 h2 => Int.le_antisymm h1 h2) ?_ hs ((List.mergeSort_perm l _).trans h)
 have := List.pairwise_mergeSort (le := fun x y : Int => decide (x ≤ y)) (fun a b c h1 h2 => by simp only [decide_eq_true_eq] at *; omega) (fun a b => by simp only [Bool.or_eq_true, decide_eq_true_eq]; omega) l
 exact this.imp fun h => by simpa using h
theorem KeysB_of {l : List Int} (h : ∀ x ∈ l, -9223372036854775808 ≤ x ∧ x ≤ 9223372036854775807) (hl : l.length ≤ 1000000000000) : KeysB l :=
 ⟨fun x hx => by
  obtain ⟨h1, h2⟩ := h x hx
  simp only [Lit.wf, Bool.and_eq_true, decide_eq_true_eq]
  exact ⟨h1, h2⟩, by omega⟩
end Go.Proofs
end
