/- Valid elements: sums, products, zero and one are valid. -/
import Derived.Test.YtlgjddgajdjllaaGreatDoorQBase
set_option linter.unusedSimpArgs false
set_option linter.unusedVariables false
namespace Go.Proofs.YtlgjddgajdjllaaGreatDoor
open Go.RowKit
theorem allTo_iff {t : Int} {x : List Int} : allTo t x = true ↔ ∀ v ∈ x, 0 ≤ v ∧ v ≤ t := by simp [allTo]
theorem rawOk_iff {k p n : Int} {x : List Int} : rawOk k p n x = true ↔ (x.length : Int) = ringWidth k n ∧ ∀ v ∈ x, 0 ≤ v ∧ v ≤ ringTop k p n := by
  rw [← allTo_iff]; simp [rawOk]
end Go.Proofs.YtlgjddgajdjllaaGreatDoor
