/- NetworkValue of the program. -/
import Derived.Test.YtlgjddgajdjllaaGreatDoorQAxesW
import Derived.Test.YtlgjddgajdjllaaGreatDoorQContrW
import Derived.Test.YtlgjddgajdjllaaGreatDoorQAlgH
set_option linter.unusedSimpArgs false
set_option linter.unusedVariables false
namespace Go.Proofs.YtlgjddgajdjllaaGreatDoor
open Go.RowKit
theorem OwnI.shape1 {w : World} {B : Nat} {v : Value} {l : List Int} (h : OwnI w B v l) (k1 : Nat) (h1 : l.length = k1) : ∃ a c, v = .slice a k1 c := h.shapeN h1
end Go.Proofs.YtlgjddgajdjllaaGreatDoor
