/- What the text of a Writer asks. No condition. -/
import Derived.Test.YtoaiieheibcnlaaDoorTs
namespace Go.Ab
/-- What the text of a Writer asks of its bytes. -/
def TextB (bs : List Int) : Prop := bs ≠ [] ∧ ∀ x ∈ bs, 0 ≤ x ∧ x < 256
instance (bs : List Int) : Decidable (TextB bs) := inferInstanceAs (Decidable (bs ≠ [] ∧ ∀ x ∈ bs, 0 ≤ x ∧ x < 256))
end Go.Ab
