/- DeltaTensor of the reference, whole, and of the program. -/
import Derived.Test.YtabeciopggofkaaXBase
import Derived.Test.YtabeciopggofkaaXDeltaP
namespace Go.Proofs.Ytabeciopggofkaa
open Go.RowKit
set_option linter.unusedSimpArgs false
set_option linter.unusedVariables false

theorem deltaTok_no {k p n d : Int} {L : List Int} (h : deltaTok k p n L d = false) : deltaTL k p n L d = [] ∧ deltaTD k p n L d = [] ∧ deltaTX k p n L d = [] := by
  simp [deltaTL, deltaTD, deltaTX, h]
theorem deltaTok_yes {k p n d : Int} {L : List Int} (h : deltaTok k p n L d = true) : deltaTL k p n L d = L ∧ deltaTD k p n L d = List.replicate L.length d ∧ deltaTX k p n L d = deltaX L.length (ringWidth k n).toNat (oneL k p n) (rep (prodL (List.replicate L.length d)).toNat (zeroL k p n)) d d.toNat := by
  simp [deltaTL, deltaTD, deltaTX, h]
end Go.Proofs.Ytabeciopggofkaa
