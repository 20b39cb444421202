/- What these functions compute, as plain functions. No condition. -/
import Derived.Test.YtoaiieheibcnlaaDoorTs
import Derived.Test.YtoaiieheibcnlaaDoorNaD
namespace Go.Proofs
open Go.Ab
noncomputable def gLaw06Awake : Option Bool :=
  ((gLabelCheck ⟨#[97, 45, 98]⟩)).bind fun r1 =>
  need (Under (eqI r1 0) true ((gLabelCheck ⟨#[45, 97]⟩).isSome = true)) <|
  need (Under (pickB (eqI r1 0) (eqI ((gLabelCheck ⟨#[45, 97]⟩).getD dflt) 6) false) true ((gLabelSame ⟨#[65, 98]⟩ ⟨#[97, 66]⟩).isSome = true)) <|
  need (Under (pickB (pickB (eqI r1 0) (eqI ((gLabelCheck ⟨#[45, 97]⟩).getD dflt) 6) false) ((gLabelSame ⟨#[65, 98]⟩ ⟨#[97, 66]⟩).getD dflt) false) true ((gLabelClass 55).isSome = true)) <|
  need (Under (pickB (pickB (pickB (eqI r1 0) (eqI ((gLabelCheck ⟨#[45, 97]⟩).getD dflt) 6) false) ((gLabelSame ⟨#[65, 98]⟩ ⟨#[97, 66]⟩).getD dflt) false) (eqI ((gLabelClass 55).getD dflt) 2) false) true ((gLabelShort ⟨#[97, 98, 45, 99]⟩ 3).isSome = true)) <|
  some (pickB (pickB (pickB (pickB (eqI r1 0) (eqI ((gLabelCheck ⟨#[45, 97]⟩).getD dflt) 6) false) ((gLabelSame ⟨#[65, 98]⟩ ⟨#[97, 66]⟩).getD dflt) false) (eqI ((gLabelClass 55).getD dflt) 2) false) (eqS ((gLabelShort ⟨#[97, 98, 45, 99]⟩ 3).getD dflt) ⟨#[97, 98]⟩) false)
end Go.Proofs
