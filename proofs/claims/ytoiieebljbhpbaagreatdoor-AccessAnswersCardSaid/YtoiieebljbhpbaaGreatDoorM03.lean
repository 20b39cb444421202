/- The runes' classes, as plain functions. No condition. -/
import Derived.Test.YtoiieebljbhpbaaGreatDoorTs
import Derived.Shelf.Unicode.CaseLaid
import Derived.Lib.RuneBytes
import Derived.Test.YtoiieebljbhpbaaGreatDoorM08
import Derived.Test.YtoiieebljbhpbaaGreatDoorTy
import Derived.Laws.Externs
import Derived.Test.YtoiieebljbhpbaaGreatDoorAb5
import Derived.Test.YtoiieebljbhpbaaGreatDoorAb8
section
namespace Go.Ab
noncomputable def letterR (r : Int) : Bool := Lib.isLetterU r
noncomputable def digitR (r : Int) : Bool := Lib.isDigitU r
noncomputable def lowerR (r : Int) : Int := Lib.toLowerU r
def runeZ (r : Int) : List Int := Lib.encodeRuneZ r
def I32B (r : Int) : Prop := -2147483648 ≤ r ∧ r ≤ 2147483647
instance (r : Int) : Decidable (I32B r) := inferInstanceAs (Decidable (_ ∧ _))
end Go.Ab
end
section
namespace Go.Ab
def TextB (bs : List Int) : Prop := bs ≠ [] ∧ ∀ x ∈ bs, 0 ≤ x ∧ x < 256
instance (bs : List Int) : Decidable (TextB bs) := inferInstanceAs (Decidable (bs ≠ [] ∧ ∀ x ∈ bs, 0 ≤ x ∧ x < 256))
end Go.Ab
end
section
namespace Go.Proofs
open Go.Ab
noncomputable def gaJ (x0 : Int) : Option Int :=
 bif (ltI x0 128) then (
  some 1
 ) else (
   bif (ltI x0 2048) then (
    some 2
   ) else (
     bif (ltI x0 65536) then (
      some 3
     ) else (
       some 4
     )
   )
 )

noncomputable def gaB (x0 : Int) : Option Int :=
 bif (pickB (pickB (eqI x0 45) true (eqI x0 95)) true (eqI x0 46)) then (
  some 3
 ) else (
   need (I32B x0) <|
   bif (letterR x0) then (
    some 1
   ) else (
     need (I32B x0) <|
     bif (digitR x0) then (
      some 2
     ) else (
       some 0
     )
   )
 )

noncomputable def gat.loop1 (x0 : ByteArray) (s1 : Int × List Int × Nat) : Option (Fl (Int × List Int × Nat) (Fl (List Int) (List Int × Bool))) :=
 bif (nextB x0 s1.2.2) then (
  ((gaJ (runeS x0 s1.2.2))).bind fun r1 =>
  need (Under (ltI (lenS x0) (addI .i64 s1.1 r1)) false (CutB s1.1 (addI .i64 s1.1 r1) (lenS x0))) <|
  bif (pickB (ltI (lenS x0) (addI .i64 s1.1 r1)) true (neS (runesBytes [(runeS x0 s1.2.2)]) (cutS x0 s1.1 (addI .i64 s1.1 r1)))) then (
   some (.out (.out ([], false)))
  ) else (
    need (AppB (lenL s1.2.1) 1 4) <|
    some (.go ((addI .i64 s1.1 r1), (appL s1.2.1 [(runeS x0 s1.2.2)]), (stepS x0 s1.2.2)))
  )
 ) else (
   some (.out (.go s1.2.1))
 )

noncomputable def gat (x0 : ByteArray) : Option (List Int × Bool) :=
 ((loopF (gat.loop1 x0) (0, [], 0)).bind fun f => flC f fun (v1 : List Int) =>
   some (v1, true)
 )

noncomputable def gag.loop1 (r1 : List Int × Bool) (s1 : Int) : Option (Fl Int (Fl Unit Bool)) :=
 bif (ltI s1 (lenL r1.1)) then (
  need (InB s1 (lenL r1.1)) <|
  ((gaB (nthI r1.1 s1))).bind fun r2 =>
  need (Under (pickB (eqI s1 0) true (eqI s1 (subI .i64 (lenL r1.1) 1))) false (Under (eqI r2 3) true (Under (eqI r2 0) false (InB (subI .i64 s1 1) (lenL r1.1))))) <|
  need (Under (pickB (eqI s1 0) true (eqI s1 (subI .i64 (lenL r1.1) 1))) false (Under (eqI r2 3) true (Under (eqI r2 0) false ((gaB (nthI r1.1 (subI .i64 s1 1))).isSome = true)))) <|
  bif (pickB (eqI r2 0) true (pickB (eqI r2 3) (pickB (pickB (eqI s1 0) true (eqI s1 (subI .i64 (lenL r1.1) 1))) true (eqI ((gaB (nthI r1.1 (subI .i64 s1 1))).getD dflt) 3)) false)) then (
   some (.out (.out false))
  ) else (
    some (.go (addI .i64 s1 1))
  )
 ) else (
   some (.out (.go ()))
 )

noncomputable def gag (x0 : ByteArray) : Option Bool :=
 ((gat x0)).bind fun r1 =>
 bif (pickB (pickB (notB r1.2) true (ltI (lenL r1.1) 1)) true (ltI 16 (lenL r1.1))) then (
  some false
 ) else (
   ((loopF (gag.loop1 r1) 0).bind fun f => flC f fun (_v1 : Unit) =>
     some true
   )
 )

noncomputable def gae.loop1 (x0 : ByteArray) (s1 : List Int × Nat) : Option (Fl (List Int × Nat) (Fl (List Int) ByteArray)) :=
 bif (nextB x0 s1.2) then (
  need (AppB (lenL s1.1) 1 4) <|
  some (.go ((appL s1.1 [(lowerR (runeS x0 s1.2))]), (stepS x0 s1.2)))
 ) else (
   some (.out (.go s1.1))
 )

noncomputable def gae (x0 : ByteArray) : Option ByteArray :=
 ((loopF (gae.loop1 x0) ([], 0)).bind fun f => flC f fun (v1 : List Int) =>
   some (runesBytes v1)
 )
end Go.Proofs
end
section
namespace Go.Proofs
open Go.Ab
noncomputable def gJ (x0 : Tb) (_x1 : Tg) (x2 : Tc) : Option Bool :=
 some (pickB (eqI x0.fOf.fd x2.fd) (eqI x0.fOf.fh x2.fh) false)

noncomputable def gO (x0 : Tb) (_x1 : Tg) (x2 : Int) : Option Bool :=
 some (eqI x0.fu x2)
end Go.Proofs
end
section
namespace Go.Proofs
open Go.RowKit Go.Ab

theorem Tryz.bcSize : (Tryz.prog.info? 141).map (·.size) = some 2 := by kernel_rfl
theorem Tryz.bcLies : liesAt Tryz.prog Tryz.prog.depth 141 (2 / Tryz.prog.cellsOf 141) 0 141 1 = true := by kernel_rfl
theorem Tryz.bbyteI : (Tryz.prog.info? 5).map (fun i => (i.zero, i.size, i.bytes)) = some (some (.int .u8 0), 1, 1) := by kernel_rfl

set_option maxHeartbeats 1000000 in
set_option maxRecDepth 100000 in
theorem Tryz.bcFresh (b : Nat) (w : World) (v : Value) (hb : w.heap[b]? = some (.cells #[.pointer none, v] 141 (0, 0))) :
  Calls Tryz.prog 135 #[.pointer (some ⟨b, 0, none⟩)] w fun e w' => e = .returned (.tuple #[]) ∧ w' = w.setCell ⟨b, 0, none⟩ (.pointer (some ⟨b, 0, none⟩)) := by
 obtain ⟨j, hj, hjs⟩ := Option.map_eq_some_iff.1 Tryz.bcSize
 have h0 : w.cell? ⟨b, 0, none⟩ = some (.pointer none) := by rw [Lib.cell_of_heap hb]; rfl
 have hsh : w.shape? b = some (141, 2) := by simp [World.shape?, hb]
 have hfz : w.frozen? ⟨b, 0, none⟩ = false := Lib.frozen_of_heap hb 0
 go_enter Tryz.func135, Tryz.ntmps135
 go_wp2
 rw [Lib.run_to_unsafe w ⟨b, 0, none⟩ Tryz.underlying138 Tryz.underlying237 hj (by rw [hjs]; decide) hsh (Nat.zero_lt_succ 1)]
 simp only [Result.andThen]
 rw [Oper.upon_value]
 go_wp2
 rw [run_callFunc_extern Tryz.func158 (by kernel_rfl) (by kernel_rfl) (by kernel_rfl) (e := Extern.AbiNoEscape.same) (by kernel_rfl)]
 rw [Lib.run_noEscape]
 simp only [Result.andThen]
 rw [Oper.upon_value]
 go_wp2
 rw [Lib.run_from_unsafe w ⟨b, 0, none⟩ Tryz.underlying237 Tryz.underlying138 hj hsh Tryz.bcLies]
 simp only [Result.andThen]
 rw [Oper.upon_value]
 go_wp2
 go_end0
 exact ⟨rfl, rfl⟩

set_option maxHeartbeats 1000000 in
set_option maxRecDepth 100000 in
theorem Tryz.bcUsed (b : Nat) (w : World) (v : Value) (hb : w.heap[b]? = some (.cells #[.pointer (some ⟨b, 0, none⟩), v] 141 (0, 0))) :
  Calls Tryz.prog 135 #[.pointer (some ⟨b, 0, none⟩)] w fun e w' => e = .returned (.tuple #[]) ∧ w' = w := by
 obtain ⟨j, hj, hjs⟩ := Option.map_eq_some_iff.1 Tryz.bcSize
 have h0 : w.cell? ⟨b, 0, none⟩ = some (.pointer (some ⟨b, 0, none⟩)) := by rw [Lib.cell_of_heap hb]; rfl
 go_enter Tryz.func135, Tryz.ntmps135
 go_wp2
 rw [Lib.run_neq_ptr_same w _ Tryz.underlying138 hj]
 go_wp2
 go_end0
 exact ⟨rfl, rfl⟩

theorem Tryz.bcAny (b : Nat) (w : World) (p v : Value) (n : Nat) (xs : List Value) (hb : w.heap[b]? = some (.cells #[p, v] 141 (0, 0))) (hp : p = .pointer none ∨ p = .pointer (some ⟨b, 0, none⟩))
  (hown : w.ownsRow 0 5 1 v n xs) (hne : v.ownBlock ≠ some b) :
  Calls Tryz.prog 135 #[.pointer (some ⟨b, 0, none⟩)] w fun e w' => e = .returned (.tuple #[]) ∧ w'.heap[b]? = some (.cells #[.pointer (some ⟨b, 0, none⟩), v] 141 (0, 0)) ∧
   w'.ownsRow 0 5 1 v n xs ∧ w'.heap.size = w.heap.size ∧ WrKeep b v.ownBlock w w' ∧ ∀ k, k ≠ b → w'.heap[k]? = w.heap[k]? := by
 rcases hp with rfl | rfl
 ·refine (Tryz.bcFresh b w v hb).mono ?_
  rintro e w' ⟨rfl, rfl⟩
  refine ⟨rfl, by simp [World.setCell, Array.getElem?_modify, hb], ?_, by simp [World.setCell], WrKeep.setCell _ _ _ _ _, fun k hk => heap_setCell_ne hk⟩
  exact hown.kept (row := some b) ⟨rfl, rfl, rfl, by simp [World.setCell], fun k _ hk => heap_setCell_ne (fun e => hk (by simp [e]))⟩ (.inr hne)
 ·refine (Tryz.bcUsed b w v hb).mono ?_
  rintro e w' ⟨rfl, rfl⟩
  exact ⟨rfl, hb, hown, rfl, WrKeep.refl _ _ _, fun _ _ => rfl⟩

end Go.Proofs
end
section
namespace Go.Ab
/-! ### Numbers -/
theorem wrap64_of {n : Int} (h0 : -9223372036854775808 ≤ n) (h1 : n < 9223372036854775808) : IntKind.i64.wrap n = n := by
 rw [IntKind.wrap_i64]; omega

theorem and_mask {j : Nat} (hj : j ≤ 62) (a m : Int) (hm : m = 2 ^ j - 1) : IntKind.i64.wrap ((BitVec.ofInt IntKind.i64.bits a &&& BitVec.ofInt IntKind.i64.bits m).toNat : Nat) = a % 2 ^ j := by
 have hb : IntKind.i64.bits = 64 := rfl
 have hp : (2 : Int) ^ j ≤ 2 ^ 62 := by
  have : (2 : Nat) ^ j ≤ 2 ^ 62 := Nat.pow_le_pow_right (by omega) hj
  exact_mod_cast this
 have h0 : (0 : Int) < 2 ^ j := Int.pow_pos (by omega)
 have hm' : (BitVec.ofInt 64 m).toNat = 2 ^ j - 1 := by
  rw [BitVec.toNat_ofInt]
  have e : m % ((2 ^ 64 : Nat) : Int) = m := Int.emod_eq_of_lt (by omega) (by
   rw [hm]
   have : (2 : Int) ^ 62 < ((2 ^ 64 : Nat) : Int) := by decide
   omega)
  rw [e, hm]
  have : ((2 ^ j : Nat) : Int) = (2 : Int) ^ j := by push_cast; rfl
  rw [← this]; omega
 rw [hb, BitVec.toNat_and, hm', Nat.and_two_pow_sub_one_eq_mod, BitVec.toNat_ofInt]
 have e1 : (((a % ((2 ^ 64 : Nat) : Int)).toNat % 2 ^ j : Nat) : Int) = a % 2 ^ j := by
  rw [Int.natCast_emod, Int.toNat_of_nonneg (Int.emod_nonneg _ (by decide)), Int.natCast_pow]
  refine Int.emod_emod_of_dvd _ ?_
  have : ((2 ^ j : Nat) : Int) ∣ ((2 ^ 64 : Nat) : Int) := Int.natCast_dvd_natCast.2 (Nat.pow_dvd_pow 2 (by omega))
  simpa only [Int.natCast_pow] using this
 rw [e1]
 have h2 := Int.emod_nonneg a (b := (2 : Int) ^ j) (by omega)
 have h3 := Int.emod_lt_of_pos a h0
 exact wrap64_of (by omega) (by omega)
theorem and_mask' {j : Nat} (hj : j ≤ 62) (a m : Int) (hm : m = 2 ^ j - 1) : bitsOp .and .i64 a m = a % 2 ^ j := and_mask hj a m hm
end Go.Ab
end
section
namespace Go.Ab
theorem eqI_d (a b : Int) : eqI a b = decide (a = b) := by
 unfold eqI; by_cases h : a = b <;> simp [h]
theorem neI_d (a b : Int) : neI a b = decide (a ≠ b) := by
 unfold neI; by_cases h : a = b <;> simp [h]
theorem ltI_d (a b : Int) : ltI a b = decide (a < b) := rfl
theorem leI_d (a b : Int) : leqI a b = decide (a ≤ b) := rfl
theorem eqI_t {a b : Int} (h : a = b) : eqI a b = true := by rw [eqI_d]; exact decide_eq_true h
theorem eqI_f {a b : Int} (h : a ≠ b) : eqI a b = false := by rw [eqI_d]; exact decide_eq_false h
theorem neI_t {a b : Int} (h : a ≠ b) : neI a b = true := by rw [neI_d]; exact decide_eq_true h
theorem neI_f {a b : Int} (h : a = b) : neI a b = false := by rw [neI_d]; exact decide_eq_false (fun q => q h)
theorem ltI_t {a b : Int} (h : a < b) : ltI a b = true := decide_eq_true h
theorem ltI_f {a b : Int} (h : ¬ a < b) : ltI a b = false := decide_eq_false h
theorem leI_t {a b : Int} (h : a ≤ b) : leqI a b = true := decide_eq_true h
theorem leI_f {a b : Int} (h : ¬ a ≤ b) : leqI a b = false := decide_eq_false h
theorem notB_d (a : Bool) : notB a = !a := rfl
theorem pickB_and (x y : Bool) : pickB x y false = (x && y) := by cases x <;> rfl
theorem pickB_or (x y : Bool) : pickB x true y = (x || y) := by cases x <;> rfl
theorem minI_d (a b : Int) : minI a b = min a b := rfl
theorem maxI_d (a b : Int) : maxI a b = max a b := rfl
theorem addI_n {a b : Int} (h0 : -9223372036854775808 ≤ a + b) (h1 : a + b < 9223372036854775808) : addI .i64 a b = a + b := wrap64_of h0 h1
theorem subI_n {a b : Int} (h0 : -9223372036854775808 ≤ a - b) (h1 : a - b < 9223372036854775808) : subI .i64 a b = a - b := wrap64_of h0 h1
theorem mulI_n {a b : Int} (h0 : -9223372036854775808 ≤ a * b) (h1 : a * b < 9223372036854775808) : mulI .i64 a b = a * b := wrap64_of h0 h1
theorem tdiv_bounds {a b : Int} (h : 0 ≤ a) (hb : 0 < b) : 0 ≤ a.tdiv b ∧ a.tdiv b ≤ a := by
 rw [Int.tdiv_eq_ediv_of_nonneg h]
 exact ⟨Int.ediv_nonneg h (by omega), Int.ediv_le_self _ h⟩
theorem quoI_n {a b : Int} (h : 0 ≤ a) (h2 : a < 9223372036854775808) (hb : 0 < b) : quoI .i64 a b = a / b := by
 have := tdiv_bounds h hb
 unfold quoI
 rw [wrap64_of (by omega) (by omega), Int.tdiv_eq_ediv_of_nonneg h]
theorem Lf {α : Type} {p : Prop} {x : Option α} (h : p) : need p x = x := by unfold need; rw [if_pos h]
@[simp] theorem flC_go {V X : Type} (v : V) (k : V → Option X) : flC (.go v) k = k v := rfl
@[simp] theorem flC_out {V X : Type} (x : X) (k : V → Option X) : flC (.out x) k = some x := rfl
@[simp] theorem Lc {α β : Type} (x : α) (k : α → Option β) : (some x).bind k = k x := rfl
@[simp] theorem getD_so {α : Type} (x y : α) : (some x).getD y = x := rfl
theorem notB_t' : notB false = true := rfl
theorem notB_f' : notB true = false := rfl
def RoundP {S T : Type} (I : S → Prop) (Q : T → Prop) (μ : S → Nat) (s : S) : Option (Fl S T) → Prop
 | some (.go s') => I s' ∧ μ s' < μ s
 | some (.out t) => Q t
 | none => False
theorem loop_ends {S T : Type} {body : S → Option (Fl S T)} (I : S → Prop) (Q : T → Prop) (μ : S → Nat) (h : ∀ s, I s → RoundP I Q μ s (body s)) (s : S) (hs : I s) : ∃ t, loopF body s = some t ∧ Q t :=
 loopF_ends I Q μ (fun s hI => by
  have q := h s hI
  cases hb : body s with
  | none => rw [hb] at q; exact q.elim
  | some f =>
    rw [hb] at q
    refine ⟨f, rfl, ?_⟩
    cases f <;> exact q) s hs
end Go.Ab
end
