/- The runes' classes, as plain functions. No condition. -/
import Derived.Test.YtefdnbpigfojcaaDoorTs
import Derived.Shelf.Unicode.CaseLaid
import Derived.Lib.RuneBytes
import Derived.Test.YtefdnbpigfojcaaDoorKt
import Derived.Test.YtefdnbpigfojcaaDoorNy
import Derived.Test.YtefdnbpigfojcaaDoorAb5
section
namespace Go.Ab
/-- unicode.IsLetter, IsDigit, ToLower, by Go's own tables; a rune's bytes. -/
noncomputable def letterR (r : Int) : Bool := Lib.isLetterU r
noncomputable def digitR (r : Int) : Bool := Lib.isDigitU r
noncomputable def lowerR (r : Int) : Int := Lib.toLowerU r
def runeZ (r : Int) : List Int := Lib.encodeRuneZ r
def I32B (r : Int) : Prop := -2147483648 ≤ r ∧ r ≤ 2147483647
instance (r : Int) : Decidable (I32B r) := inferInstanceAs (Decidable (_ ∧ _))
end Go.Ab
end
section
namespace Go.Ab
/-- What the text of a Writer asks of its bytes. -/
def TextB (bs : List Int) : Prop := bs ≠ [] ∧ ∀ x ∈ bs, 0 ≤ x ∧ x < 256
instance (bs : List Int) : Decidable (TextB bs) := inferInstanceAs (Decidable (bs ≠ [] ∧ ∀ x ∈ bs, 0 ≤ x ∧ x < 256))
end Go.Ab
end
section

end
section

end
section
namespace Go.Proofs
open Go.Ab
noncomputable def gRef06Size (x0 : Int) : Option Int :=
  bif (ltI x0 128) then (
    some 1
  ) else (
    bif (ltI x0 2048) then (
      some 2
    ) else (
      bif (ltI x0 65536) then (
        some 3
      ) else (
        some 4
      )
    )
  )

noncomputable def gRef06Class (x0 : Int) : Option Int :=
  bif (pickB (pickB (eqI x0 45) true (eqI x0 95)) true (eqI x0 46)) then (
    some 3
  ) else (
    need (I32B x0) <|
    bif (letterR x0) then (
      some 1
    ) else (
      need (I32B x0) <|
      bif (digitR x0) then (
        some 2
      ) else (
        some 0
      )
    )
  )

noncomputable def gRef06Runes.loop1 (x0 : ByteArray) (s1 : Int × List Int × Nat) : Option (Fl (Int × List Int × Nat) (Fl (List Int) (List Int × Bool))) :=
  bif (nextB x0 s1.2.2) then (
    ((gRef06Size (runeS x0 s1.2.2))).bind fun r1 =>
    need (Under (ltI (lenS x0) (addI .i64 s1.1 r1)) false (CutB s1.1 (addI .i64 s1.1 r1) (lenS x0))) <|
    bif (pickB (ltI (lenS x0) (addI .i64 s1.1 r1)) true (neS (runesBytes [(runeS x0 s1.2.2)]) (cutS x0 s1.1 (addI .i64 s1.1 r1)))) then (
      some (.out (.out ([], false)))
    ) else (
      need (AppB (lenL s1.2.1) 1 4) <|
      some (.go ((addI .i64 s1.1 r1), (appL s1.2.1 [(runeS x0 s1.2.2)]), (stepS x0 s1.2.2)))
    )
  ) else (
    some (.out (.go s1.2.1))
  )

noncomputable def gRef06Runes (x0 : ByteArray) : Option (List Int × Bool) :=
  ((loopF (gRef06Runes.loop1 x0) (0, [], 0)).bind fun f => flC f fun (v1 : List Int) =>
    some (v1, true)
  )

noncomputable def gRef06Good.loop1 (r1 : List Int × Bool) (s1 : Int) : Option (Fl Int (Fl Unit Bool)) :=
  bif (ltI s1 (lenL r1.1)) then (
    need (InB s1 (lenL r1.1)) <|
    ((gRef06Class (nthI r1.1 s1))).bind fun r2 =>
    need (Under (pickB (eqI s1 0) true (eqI s1 (subI .i64 (lenL r1.1) 1))) false (Under (eqI r2 3) true (Under (eqI r2 0) false (InB (subI .i64 s1 1) (lenL r1.1))))) <|
    need (Under (pickB (eqI s1 0) true (eqI s1 (subI .i64 (lenL r1.1) 1))) false (Under (eqI r2 3) true (Under (eqI r2 0) false ((gRef06Class (nthI r1.1 (subI .i64 s1 1))).isSome = true)))) <|
    bif (pickB (eqI r2 0) true (pickB (eqI r2 3) (pickB (pickB (eqI s1 0) true (eqI s1 (subI .i64 (lenL r1.1) 1))) true (eqI ((gRef06Class (nthI r1.1 (subI .i64 s1 1))).getD dflt) 3)) false)) then (
      some (.out (.out false))
    ) else (
      some (.go (addI .i64 s1 1))
    )
  ) else (
    some (.out (.go ()))
  )

noncomputable def gRef06Good (x0 : ByteArray) : Option Bool :=
  ((gRef06Runes x0)).bind fun r1 =>
  bif (pickB (pickB (notB r1.2) true (ltI (lenL r1.1) 1)) true (ltI 16 (lenL r1.1))) then (
    some false
  ) else (
    ((loopF (gRef06Good.loop1 r1) 0).bind fun f => flC f fun (_v1 : Unit) =>
      some true
    )
  )

noncomputable def gRef06Fold.loop1 (x0 : ByteArray) (s1 : List Int × Nat) : Option (Fl (List Int × Nat) (Fl (List Int) ByteArray)) :=
  bif (nextB x0 s1.2) then (
    need (AppB (lenL s1.1) 1 4) <|
    some (.go ((appL s1.1 [(lowerR (runeS x0 s1.2))]), (stepS x0 s1.2)))
  ) else (
    some (.out (.go s1.1))
  )

noncomputable def gRef06Fold (x0 : ByteArray) : Option ByteArray :=
  ((loopF (gRef06Fold.loop1 x0) ([], 0)).bind fun f => flC f fun (v1 : List Int) =>
    some (runesBytes v1)
  )
end Go.Proofs
end
section
namespace Go.Proofs
open Go.Ab
noncomputable def gLaw01Cut (x0 : ByteArray) (x1 : Int) : Option ByteArray :=
  bif (ltI x1 (lenS x0)) then (
    need (CutB 0 x1 (lenS x0)) <|
    some (cutS x0 0 x1)
  ) else (
    some x0
  )
end Go.Proofs
end
section
namespace Go.Ab
/-! ### Numbers -/
theorem wrap64_of {n : Int} (h0 : -9223372036854775808 ≤ n) (h1 : n < 9223372036854775808) : IntKind.i64.wrap n = n := by
  rw [IntKind.wrap_i64]; omega

theorem and_mask {j : Nat} (hj : j ≤ 62) (a m : Int) (hm : m = 2 ^ j - 1) : IntKind.i64.wrap ((BitVec.ofInt IntKind.i64.bits a &&& BitVec.ofInt IntKind.i64.bits m).toNat : Nat) = a % 2 ^ j := by
  have hb : IntKind.i64.bits = 64 := rfl
  have hp : (2 : Int) ^ j ≤ 2 ^ 62 := by
    have : (2 : Nat) ^ j ≤ 2 ^ 62 := Nat.pow_le_pow_right (by omega) hj
    exact_mod_cast this
  have h0 : (0 : Int) < 2 ^ j := Int.pow_pos (by omega)
  have hm' : (BitVec.ofInt 64 m).toNat = 2 ^ j - 1 := by
    rw [BitVec.toNat_ofInt]
    have e : m % ((2 ^ 64 : Nat) : Int) = m := Int.emod_eq_of_lt (by omega) (by
      rw [hm]
      have : (2 : Int) ^ 62 < ((2 ^ 64 : Nat) : Int) := by decide
      omega)
    rw [e, hm]
    have : ((2 ^ j : Nat) : Int) = (2 : Int) ^ j := by push_cast; rfl
    rw [← this]; omega
  rw [hb, BitVec.toNat_and, hm', Nat.and_two_pow_sub_one_eq_mod, BitVec.toNat_ofInt]
  have e1 : (((a % ((2 ^ 64 : Nat) : Int)).toNat % 2 ^ j : Nat) : Int) = a % 2 ^ j := by
    rw [Int.natCast_emod, Int.toNat_of_nonneg (Int.emod_nonneg _ (by decide)), Int.natCast_pow]
    refine Int.emod_emod_of_dvd _ ?_
    have : ((2 ^ j : Nat) : Int) ∣ ((2 ^ 64 : Nat) : Int) := Int.natCast_dvd_natCast.2 (Nat.pow_dvd_pow 2 (by omega))
    simpa only [Int.natCast_pow] using this
  rw [e1]
  have h2 := Int.emod_nonneg a (b := (2 : Int) ^ j) (by omega)
  have h3 := Int.emod_lt_of_pos a h0
  exact wrap64_of (by omega) (by omega)
theorem and_mask' {j : Nat} (hj : j ≤ 62) (a m : Int) (hm : m = 2 ^ j - 1) : bitsOp .and .i64 a m = a % 2 ^ j := and_mask hj a m hm
end Go.Ab
end
