/- slices.SortFunc at this program's structs, for rows of the call's own. No claim of its own; no condition. -/
import Derived.Test.YtglneailkgminaaGreatSortL
import Derived.Test.YtglneailkgminaaGreatSortQ
import Derived.Test.YtglneailkgminaaGreatLibM
import Derived.Test.YtglneailkgminaaGreatCmpM
namespace Go.Proofs.YtglneailkgminaaGreat
open Go.ChangeShapes Go.WideShapes Go.ChangeAt Go.RowKit Go.Sort Go.Shelf
set_option linter.unusedVariables false
set_option linter.unusedSimpArgs false
instance : Inhabited Mark := ⟨0, 0, ⟨#[]⟩⟩
theorem enc_lenMark (x : Mark) : (encMark x).length = 3 := rfl
theorem enc_oneMark (x : Mark) : ∀ v ∈ encMark x, v.oneCell' = true := by
  intro v hv
  simp only [encMark, List.mem_cons, List.not_mem_nil, or_false] at hv
  rcases hv with rfl | rfl | rfl <;> rfl
end Go.Proofs.YtglneailkgminaaGreat
