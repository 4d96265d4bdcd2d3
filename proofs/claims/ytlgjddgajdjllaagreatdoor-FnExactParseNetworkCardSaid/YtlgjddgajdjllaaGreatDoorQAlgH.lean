/- Homomorphisms keep zero, one, sums and products: the plain law. -/
import Derived.Test.YtlgjddgajdjllaaGreatDoorQHomA
set_option linter.unusedSimpArgs false
set_option linter.unusedVariables false
namespace Go.Proofs.YtlgjddgajdjllaaGreatDoor
open Go.RowKit
theorem four {x : List Int} (h : x.length = 4) : x = [cg x 0, cg x 1, cg x 2, cg x 3] := by
  match x, h with
  | [a, b, c, d], _ => rfl
end Go.Proofs.YtlgjddgajdjllaaGreatDoor
