/- joinLabels, keptOnly, withoutInt, sameLabels of the program. -/
import Derived.Test.YtlgjddgajdjllaaGreatDoorTTenW
set_option linter.unusedSimpArgs false
set_option linter.unusedVariables false
namespace Go.Proofs.YtlgjddgajdjllaaGreatDoor
open Go.RowKit
theorem take_snoc' {l : List Int} {j : Nat} {x : Int} (h : l[j]? = some x) : l.take (j + 1) = l.take j ++ [x] := by
  obtain ⟨hj, rfl⟩ := List.getElem?_eq_some_iff.1 h
  exact List.take_succ_eq_append_getElem hj
end Go.Proofs.YtlgjddgajdjllaaGreatDoor
