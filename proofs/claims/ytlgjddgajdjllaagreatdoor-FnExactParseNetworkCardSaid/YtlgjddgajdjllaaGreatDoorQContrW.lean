/- ContractPair of the program. -/
import Derived.Test.YtlgjddgajdjllaaGreatDoorQG7
set_option linter.unusedSimpArgs false
set_option linter.unusedVariables false
namespace Go.Proofs.YtlgjddgajdjllaaGreatDoor
open Go.RowKit
theorem OwnI.shapeN {w : World} {B n : Nat} {v : Value} {l : List Int} (h : OwnI w B v l) (h1 : l.length = n) : ∃ a c, v = .slice a n c := by
  subst h1
  obtain ⟨a, c, rfl, _, _⟩ := h.ints.val
  exact ⟨_, _, rfl⟩
end Go.Proofs.YtlgjddgajdjllaaGreatDoor
