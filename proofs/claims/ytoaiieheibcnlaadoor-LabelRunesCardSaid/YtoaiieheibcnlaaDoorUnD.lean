/- The runes' classes, as plain functions. No condition. -/
import Derived.Test.YtoaiieheibcnlaaDoorTs
import Derived.Shelf.Unicode.CaseLaid
import Derived.Lib.RuneBytes
namespace Go.Ab
/-- unicode.IsLetter, IsDigit, ToLower, by Go's own tables; a rune's bytes. -/
noncomputable def letterR (r : Int) : Bool := Lib.isLetterU r
noncomputable def digitR (r : Int) : Bool := Lib.isDigitU r
noncomputable def lowerR (r : Int) : Int := Lib.toLowerU r
def runeZ (r : Int) : List Int := Lib.encodeRuneZ r
def I32B (r : Int) : Prop := -2147483648 ≤ r ∧ r ≤ 2147483647
instance (r : Int) : Decidable (I32B r) := inferInstanceAs (Decidable (_ ∧ _))
end Go.Ab
