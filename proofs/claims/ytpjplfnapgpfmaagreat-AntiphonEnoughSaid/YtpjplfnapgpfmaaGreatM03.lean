/- The words for a map's keys. No condition. -/
import Derived.Test.YtpjplfnapgpfmaaGreatKl
import Derived.Test.YtpjplfnapgpfmaaGreatTs
import Derived.Test.YtpjplfnapgpfmaaGreatSh
import Derived.Test.YtpjplfnapgpfmaaGreatM11
import Derived.Lib.UnsafeStr
import Derived.Test.YtpjplfnapgpfmaaGreatAb5
import Derived.Test.YtpjplfnapgpfmaaGreatAb8
section

end
section

end
section
namespace Go.Ab
def TextB (bs : List Int) : Prop := bs ≠ [] ∧ ∀ x ∈ bs, 0 ≤ x ∧ x < 256
instance (bs : List Int) : Decidable (TextB bs) := inferInstanceAs (Decidable (bs ≠ [] ∧ ∀ x ∈ bs, 0 ≤ x ∧ x < 256))
end Go.Ab
end
section

end
section

end
section
namespace Go.Proofs
open Go.Ab
noncomputable def gi.loop2 (x2 : List Int) (s1 : Int × List Int) (s2 : Int × List Int) : Option (Fl (Int × List Int) (Fl (List Int) (Fl (Int × List Int) (Fl (List Int) (List Int))))) :=
 bif (leqI 0 s2.1) then (
  need (NonN (mulI .i64 8 s2.1)) <|
  need (AppB (lenL s2.2) 1 1) <|
  some (.go ((subI .i64 s2.1 1), (appL s2.2 [(cvtI .u8 (shrI .u64 (nthI x2 s1.1) (mulI .i64 8 s2.1)))])))
 ) else (
   some (.out (.go s2.2))
 )

noncomputable def gi.loop1 (x1 : Int) (x2 : List Int) (s1 : Int × List Int) : Option (Fl (Int × List Int) (Fl (List Int) (List Int))) :=
 bif (ltI s1.1 (lenL x2)) then (
  need (InB s1.1 (lenL x2)) <|
  ((loopF (gi.loop2 x2 s1) ((subI .i64 (minI (maxI x1 1) 8) 1), s1.2)).bind fun f => flC f fun (v2 : List Int) =>
    some (.go ((addI .i64 s1.1 1), v2))
  )
 ) else (
   some (.out (.go s1.2))
 )

noncomputable def gi (x0 : List Int) (x1 : Int) (x2 : List Int) : Option (List Int) :=
 ((loopF (gi.loop1 x1 x2) (0, x0)).bind fun f => flC f fun (v1 : List Int) =>
   some v1
 )

noncomputable def gj.loop1 (x1 : List Int) (s1 : Int × List Int) : Option (Fl (Int × List Int) (Fl (List Int) (List Int))) :=
 bif (ltI s1.1 (lenL x1)) then (
  need (InB s1.1 (lenL x1)) <|
  ((gi s1.2 2 [(cvtI .u64 (nthI x1 s1.1))])).bind fun r1 =>
  some (.go ((addI .i64 s1.1 1), r1))
 ) else (
   some (.out (.go s1.2))
 )

noncomputable def gj (x0 : List Int) (x1 : List Int) : Option (List Int) :=
 ((loopF (gj.loop1 x1) (0, x0)).bind fun f => flC f fun (v1 : List Int) =>
   some v1
 )

noncomputable def gl.loop1 (x1 : List Int) (s1 : Int × List Int) : Option (Fl (Int × List Int) (Fl (List Int) (List Int))) :=
 bif (ltI s1.1 (lenL x1)) then (
  need (InB s1.1 (lenL x1)) <|
  ((gi s1.2 4 [(cvtI .u64 (nthI x1 s1.1))])).bind fun r1 =>
  some (.go ((addI .i64 s1.1 1), r1))
 ) else (
   some (.out (.go s1.2))
 )

noncomputable def gl (x0 : List Int) (x1 : List Int) : Option (List Int) :=
 ((loopF (gl.loop1 x1) (0, x0)).bind fun f => flC f fun (v1 : List Int) =>
   some v1
 )

noncomputable def gp.loop1 (x1 : List ByteArray) (s1 : Int × List Int) : Option (Fl (Int × List Int) (Fl (List Int) (List Int))) :=
 bif (ltI s1.1 (lenL x1)) then (
  need (InB s1.1 (lenL x1)) <|
  need (0 < lenS (nthI x1 s1.1)) <|
  need (AppB (lenL s1.2) (lenS (nthI x1 s1.1)) 1) <|
  some (.go ((addI .i64 s1.1 1), (appL s1.2 (numsOf (nthI x1 s1.1)))))
 ) else (
   some (.out (.go s1.2))
 )

noncomputable def gp (x0 : List Int) (x1 : List ByteArray) : Option (List Int) :=
 ((loopF (gp.loop1 x1) (0, x0)).bind fun f => flC f fun (v1 : List Int) =>
   some v1
 )

noncomputable def gS (x0 : List Int) : Option Int :=
 some (lenL x0)

noncomputable def gC.loop1 (x1 : Int) (s1 : List Int) : Option (Fl (List Int) (Fl (List Int) (List Int))) :=
 ((gS s1)).bind fun r1 =>
 need (NonZ (maxI x1 1)) <|
 bif (neI (remI r1 (maxI x1 1)) 0) then (
  need (AppB (lenL s1) 1 1) <|
  some (.go (appL s1 [0]))
 ) else (
   some (.out (.go s1))
 )

noncomputable def gC (x0 : List Int) (x1 : Int) : Option (List Int) :=
 ((loopF (gC.loop1 x1) x0).bind fun f => flC f fun (v1 : List Int) =>
   some v1
 )
end Go.Proofs
end
section
namespace Go.Proofs
open Go.Ab Go.Shelf
theorem libKeys.gaY.ok : SpecOk Tryz.prog 63 (keysS 91) :=
 keys_ok Tryz.keysAE rfl rfl (enters_of Tryz.func63 (by kernel_rfl) rfl)
theorem Tryz.sortsE (m : Nat) : AnyZI.SortsIn Tryz.prog Tryz.sortedAD_ren Fence.wide m :=
  ⟨fun blk off cap ss W hH hblk hsz => callsIn_wide.2 (AnyM.slices_Sort_int Tryz.sortAD blk off cap ss W hH hblk hsz),
   fun p cap W => callsIn_wide.2 (AnyM.slices_Sort_int_none Tryz.sortAD p cap W)⟩
theorem libSorted.ga0.ok : SpecOk Tryz.prog 62 (sortedS 91) :=
 sorted_ok Tryz.sortedAD { Tryz.keysAE with } rfl rfl (enters_of Tryz.func62 (by kernel_rfl) rfl) Tryz.sortsE (enters_of Tryz.func90 (by kernel_rfl) rfl) (enters_of Tryz.func91 (by kernel_rfl) rfl)
end Go.Proofs
end
section
namespace Go.Proofs
end Go.Proofs
namespace Go.Ab
open Go.Proofs

@[simp] theorem bel_opq (m : Nat) (φ : Opq) : (AObj.opq φ).bel m ↔ True := Iff.rfl
@[simp] theorem wrO_bs (T E : TypeId) (bs : List Int) : (wrO T E bs).bs = bs := rfl
@[simp] def wrTextS (T E : TypeId) : Sp
  | [.ptr i 0], M => match M[i]? with
    | some (.opq φ) => some { av := .lit (.string (strOfNums φ.bs)), M := some (M.set i (.opq wrX)), obl := φ = wrO T E φ.bs ∧ TextB φ.bs }
    | _ => none
  | _, _ => none

theorem bytes_of {bs : List Int} (h : ∀ x ∈ bs, 0 ≤ x ∧ x < 256) : bs.map (Value.int .u8) = Lib.byteCells (bs.map fun n => n.toNat.toUInt8) := by
 simp only [Lib.byteCells, List.map_map]
 refine List.map_congr_left fun x hx => ?_
 obtain ⟨h1, h2⟩ := h x hx
 simp only [Function.comp, Nat.toUInt8, UInt8.toNat_ofNat']
 congr 1
 omega

theorem textW_ok {P : Program} {f : FuncId} {T E : TypeId} (hent : ∀ args w, (callFunc f args).run P w = .ok (.enter f args) w)
  (hS : ∀ (b g cap : Nat) (w : World) (p : Value) (l : List UInt8) (cur : Array Value), w.heap[b]? = some (.cells #[p, .slice (some ⟨g, 0, none⟩) l.length cap] T (0, 0)) → w.heap[g]? = some (.cells cur E (0, 0)) →
   l.length ≤ cap → cap ≤ maxLen → cur.size = cap → cur.toList.take l.length = Lib.byteCells l → l ≠ [] →
   Calls P f #[.pointer (some ⟨b, 0, none⟩)] w fun e w' => e = .returned (.string ⟨l.toArray⟩) ∧ WrKeep b (some g) w w' ∧ w'.heap.size = w.heap.size) : SpecOk P f (wrTextS T E) := by
 intro l M out h
 unfold wrTextS at h
 split at h
 ·rename_i i
  split at h
  ·rename_i φ hMi
   cases h
   intro g vs hM sm hr ho
   subst hM
   obtain ⟨hφ, hne, hbb⟩ := ho
   cases hr with | cons hv hr => cases hr with | nil =>
   cases hv with
   | ptr _ _ hi =>
   refine ⟨hent _ _, ?_⟩
   have hq := sm.opq i φ hMi
   rw [hφ] at hq
   obtain ⟨p, v, h1, h2, h3⟩ := hq
   rcases h3 with ⟨_, h, _⟩ | ⟨cap, cur, rfl, h4, h5, h6, h7, h8, h9⟩
   ·exact absurd h hne
   generalize hl : φ.bs.map (fun n => n.toNat.toUInt8) = ls
   have hll : ls.length = φ.bs.length := by rw [← hl]; simp
   have hb : φ.bs.map (Value.int .u8) = Lib.byteCells ls := by rw [← hl]; exact bytes_of hbb
   have hstr : (⟨ls.toArray⟩ : ByteArray) = strOfNums φ.bs := by
    rw [← hl]; rfl
   simp only [wrO] at h1 h5 h6 h9
   refine (hS (g.β i) (g.ρ i).b cap g.w p ls cur (by rw [hll]; exact h1) h5 (by omega) h7 h8 (by rw [hll, ← hb]; exact h9) (fun e => hne (List.eq_nil_of_length_eq_zero (by rw [← hll, e]; rfl)))).mono ?_
   rintro e w' ⟨rfl, k1, k2⟩
   obtain ⟨kk, ss⟩ := opq_turn sm hMi (φ' := wrX) (w' := w') (rb := (g.ρ i).b) k1.size ⟨k1.os, k1.output⟩ (fun k q1 q2 q3 => k1.block k q1 q2 (by simpa using q3)) (.inl rfl) trivial
   refine ⟨_, rfl, g.β, _, ss, ?_, kk⟩
   rw [hstr]
   exact .lit _
  ·cases h
 ·cases h
end Go.Ab
end
section
namespace Go.Ab
/-! ### Numbers -/
theorem wrap64_of {n : Int} (h0 : -9223372036854775808 ≤ n) (h1 : n < 9223372036854775808) : IntKind.i64.wrap n = n := by
 rw [IntKind.wrap_i64]; omega

theorem and_mask {j : Nat} (hj : j ≤ 62) (a m : Int) (hm : m = 2 ^ j - 1) : IntKind.i64.wrap ((BitVec.ofInt IntKind.i64.bits a &&& BitVec.ofInt IntKind.i64.bits m).toNat : Nat) = a % 2 ^ j := by
 have hb : IntKind.i64.bits = 64 := rfl
 have hp : (2 : Int) ^ j ≤ 2 ^ 62 := by
  have : (2 : Nat) ^ j ≤ 2 ^ 62 := Nat.pow_le_pow_right (by omega) hj
  exact_mod_cast this
 have h0 : (0 : Int) < 2 ^ j := Int.pow_pos (by omega)
 have hm' : (BitVec.ofInt 64 m).toNat = 2 ^ j - 1 := by
  rw [BitVec.toNat_ofInt]
  have e : m % ((2 ^ 64 : Nat) : Int) = m := Int.emod_eq_of_lt (by omega) (by
   rw [hm]
   have : (2 : Int) ^ 62 < ((2 ^ 64 : Nat) : Int) := by decide
   omega)
  rw [e, hm]
  have : ((2 ^ j : Nat) : Int) = (2 : Int) ^ j := by push_cast; rfl
  rw [← this]; omega
 rw [hb, BitVec.toNat_and, hm', Nat.and_two_pow_sub_one_eq_mod, BitVec.toNat_ofInt]
 have e1 : (((a % ((2 ^ 64 : Nat) : Int)).toNat % 2 ^ j : Nat) : Int) = a % 2 ^ j := by
  rw [Int.natCast_emod, Int.toNat_of_nonneg (Int.emod_nonneg _ (by decide)), Int.natCast_pow]
  refine Int.emod_emod_of_dvd _ ?_
  have : ((2 ^ j : Nat) : Int) ∣ ((2 ^ 64 : Nat) : Int) := Int.natCast_dvd_natCast.2 (Nat.pow_dvd_pow 2 (by omega))
  simpa only [Int.natCast_pow] using this
 rw [e1]
 have h2 := Int.emod_nonneg a (b := (2 : Int) ^ j) (by omega)
 have h3 := Int.emod_lt_of_pos a h0
 exact wrap64_of (by omega) (by omega)
theorem and_mask' {j : Nat} (hj : j ≤ 62) (a m : Int) (hm : m = 2 ^ j - 1) : bitsOp .and .i64 a m = a % 2 ^ j := and_mask hj a m hm
end Go.Ab
end
section
namespace Go.Ab
theorem eqI_d (a b : Int) : eqI a b = decide (a = b) := by
 unfold eqI; by_cases h : a = b <;> simp [h]
theorem neI_d (a b : Int) : neI a b = decide (a ≠ b) := by
 unfold neI; by_cases h : a = b <;> simp [h]
theorem ltI_d (a b : Int) : ltI a b = decide (a < b) := rfl
theorem leI_d (a b : Int) : leqI a b = decide (a ≤ b) := rfl
theorem eqI_t {a b : Int} (h : a = b) : eqI a b = true := by rw [eqI_d]; exact decide_eq_true h
theorem eqI_f {a b : Int} (h : a ≠ b) : eqI a b = false := by rw [eqI_d]; exact decide_eq_false h
theorem neI_t {a b : Int} (h : a ≠ b) : neI a b = true := by rw [neI_d]; exact decide_eq_true h
theorem neI_f {a b : Int} (h : a = b) : neI a b = false := by rw [neI_d]; exact decide_eq_false (fun q => q h)
theorem ltI_t {a b : Int} (h : a < b) : ltI a b = true := decide_eq_true h
theorem ltI_f {a b : Int} (h : ¬ a < b) : ltI a b = false := decide_eq_false h
theorem leI_t {a b : Int} (h : a ≤ b) : leqI a b = true := decide_eq_true h
theorem leI_f {a b : Int} (h : ¬ a ≤ b) : leqI a b = false := decide_eq_false h
theorem eqB_d (a b : Bool) : eqB a b = decide (a = b) := by cases a <;> cases b <;> rfl
theorem pickB_and (x y : Bool) : pickB x y false = (x && y) := by cases x <;> rfl
theorem pickB_or (x y : Bool) : pickB x true y = (x || y) := by cases x <;> rfl
theorem minI_d (a b : Int) : minI a b = min a b := rfl
theorem maxI_d (a b : Int) : maxI a b = max a b := rfl
theorem addI_n {a b : Int} (h0 : -9223372036854775808 ≤ a + b) (h1 : a + b < 9223372036854775808) : addI .i64 a b = a + b := wrap64_of h0 h1
theorem subI_n {a b : Int} (h0 : -9223372036854775808 ≤ a - b) (h1 : a - b < 9223372036854775808) : subI .i64 a b = a - b := wrap64_of h0 h1
theorem mulI_n {a b : Int} (h0 : -9223372036854775808 ≤ a * b) (h1 : a * b < 9223372036854775808) : mulI .i64 a b = a * b := wrap64_of h0 h1
theorem Lf {α : Type} {p : Prop} {x : Option α} (h : p) : need p x = x := by unfold need; rw [if_pos h]
@[simp] theorem flC_go {V X : Type} (v : V) (k : V → Option X) : flC (.go v) k = k v := rfl
@[simp] theorem flC_out {V X : Type} (x : X) (k : V → Option X) : flC (.out x) k = some x := rfl
@[simp] theorem Ld {α β : Type} (x : α) (k : α → Option β) : (some x).bind k = k x := rfl
@[simp] theorem getD_so {α : Type} (x y : α) : (some x).getD y = x := rfl
theorem under_of {e : Bool} {b : Bool} {p : Prop} (h : p) : Under e b p := fun _ => h
theorem lenL_nn {α : Type} (l : List α) : 0 ≤ lenL l := by unfold lenL; omega
theorem optC_none {α β : Type} (x : α) (k : β → α) : optC (none : Option β) x k = x := rfl
theorem optC_some {α β : Type} (b : β) (x : α) (k : β → α) : optC (some b) x k = k b := rfl
theorem notB_t' : notB false = true := rfl
theorem notB_f' : notB true = false := rfl
def RoundP {S T : Type} (I : S → Prop) (Q : T → Prop) (μ : S → Nat) (s : S) : Option (Fl S T) → Prop
 | some (.go s') => I s' ∧ μ s' < μ s
 | some (.out t) => Q t
 | none => False
theorem loop_ends {S T : Type} {body : S → Option (Fl S T)} (I : S → Prop) (Q : T → Prop) (μ : S → Nat) (h : ∀ s, I s → RoundP I Q μ s (body s)) (s : S) (hs : I s) : ∃ t, loopF body s = some t ∧ Q t :=
 loopF_ends I Q μ (fun s hI => by
  have q := h s hI
  cases hb : body s with
  | none => rw [hb] at q; exact q.elim
  | some f =>
    rw [hb] at q
    refine ⟨f, rfl, ?_⟩
    cases f <;> exact q) s hs
end Go.Ab
end
