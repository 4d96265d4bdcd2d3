/- SubNetwork of the program. -/
import Derived.Test.YtpegckmagiaggaaGNetW
set_option linter.unusedSimpArgs false
set_option linter.unusedVariables false
namespace Go.Proofs.Ytpegckmagiaggaa
open Go.RowKit
section
variable {k p n : Int}
variable {dm : Int → Int} {U : List Int} {ts : List (NT k p n)} {op : List Int}
theorem IsT.flatLen (hr : ringOk k p n = true) {L : List Int} {xs : List (El k p n)} (h : IsT k p n dm U L xs) : (flat xs).length ≤ 1048576 := by
  obtain ⟨P0, W, hP, hW, hP1, hP2, hW1', hW6, hXl⟩ := (h.ok hr).nat hr
  have h1 := h.small
  rw [flat_length hW, h.len]
  have := Nat.mul_le_mul h1 hW6
  omega
end
end Go.Proofs.Ytpegckmagiaggaa
