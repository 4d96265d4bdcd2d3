/- AddElem of the program and of the reference. -/
import Derived.Test.YtpegckmagiaggaaJAddsS
set_option linter.unusedSimpArgs false
set_option linter.unusedVariables false
namespace Go.Proofs.Ytpegckmagiaggaa
open Go.RowKit
theorem elemOk_parts {k p n : Int} {x : List Int} (h : elemOk k p n x = true) : ringOk k p n = true ∧ rawOk k p n x = true := by
  cases hr : ringOk k p n
  · rw [elemOk_no hr] at h; cases h
  · exact ⟨rfl, by rwa [elemOk_yes hr] at h⟩
theorem elemOk_len {k p n : Int} {x : List Int} (h : elemOk k p n x = true) : 1 ≤ x.length ∧ x.length ≤ 6 := by
  obtain ⟨hr, hx⟩ := elemOk_parts h
  obtain ⟨_, hl⟩ := rawOk_fit hr hx
  have := (ringOk_wide hr).lo
  have := (ringOk_wide hr).hi
  omega
end Go.Proofs.Ytpegckmagiaggaa
