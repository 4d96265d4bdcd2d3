/- Elements as text. -/
import Derived.Test.YtlgjddgajdjllaaGreatDoorTFmtInts
set_option linter.unusedSimpArgs false
set_option linter.unusedVariables false
namespace Go.Proofs.YtlgjddgajdjllaaGreatDoor
open Go.RowKit
open Go.Lib
theorem elemOk_i64 {k p n : Int} {x : List Int} (h : elemOk k p n x = true) : (∀ v ∈ x, isI64 v) ∧ x.length ≤ 6 := by
  have hr : ringOk k p n = true := by simp [elemOk] at h; exact h.1.1
  rw [elemOk_yes hr] at h
  have ht := ringTop_le (ringOk_fit hr)
  have hw := (ringOk_wide hr).hi
  unfold rawOk at h
  simp [allTo] at h
  exact ⟨fun v hv => by have := h.2 v hv; unfold isI64; omega, by omega⟩
end Go.Proofs.YtlgjddgajdjllaaGreatDoor
