/- Rings as text. -/
import Derived.Test.YtodooalhbcoihaaGreatDoorQBase
namespace Go.Proofs.YtodooalhbcoihaaGreatDoor
open Go.RowKit
set_option linter.unusedSimpArgs false
set_option linter.unusedVariables false
open Go.Lib

/-- The name of a kind. -/
def nameL (k : Int) : List UInt8 :=
  if k = 1 then [98, 111, 111, 108] else if k = 2 then [109, 111, 100] else if k = 3 then [99, 97, 112] else if k = 4 then [109, 105, 110]
  else if k = 5 then [119, 105, 100, 101] else if k = 6 then [115, 101, 116] else if k = 7 then [112, 111, 108, 121] else if k = 8 then [111, 109, 101, 103, 97] else []
/-- A space and a number, where it is not 0. -/
def numT (p : Int) : List UInt8 := if p = 0 then [] else 32 :: itoa p
/-- 'FormatRing' -/
def fmtRing (k p n : Int) : List UInt8 := if ringOk k p n = true then nameL k ++ numT p ++ numT n else []
theorem fmtRing_no {k p n : Int} (h : ringOk k p n = false) : fmtRing k p n = [] := by simp [fmtRing, h]
theorem fmtRing_yes {k p n : Int} (h : ringOk k p n = true) : fmtRing k p n = nameL k ++ numT p ++ numT n := by simp [fmtRing, h]
theorem numT_zero : numT 0 = [] := rfl
theorem numT_some {p : Int} (h : ¬ p = 0) : numT p = 32 :: itoa p := by simp [numT, h]
theorem ringOk_kind {k p n : Int} (h : ringOk k p n = true) : 1 ≤ k ∧ k ≤ 8 := by
  rcases kinds k with rfl | rfl | rfl | rfl | rfl | rfl | rfl | rfl | ⟨e1, e2, e3, e4, e5, e6, e7, e8⟩
  any_goals omega
  simp [ringOk, e1, e2, e3, e4, e5, e6, e7, e8] at h
theorem ringOk_small {k p n : Int} (h : ringOk k p n = true) : (0 ≤ p ∧ p ≤ 1000003) ∧ (0 ≤ n ∧ n ≤ 20) := by
  rcases kinds k with rfl | rfl | rfl | rfl | rfl | rfl | rfl | rfl | ⟨e1, e2, e3, e4, e5, e6, e7, e8⟩
  · simp [ringOk] at h; omega
  · simp [ringOk] at h; have := isPrime_ge h.1; have := isPrime_le h.1; omega
  · simp [ringOk] at h; omega
  · simp [ringOk] at h; omega
  · simp [ringOk] at h; omega
  · simp [ringOk] at h; omega
  · simp [ringOk] at h; have := isPrime_ge h.1.1; have := isPrime_le h.1.1; omega
  · simp [ringOk] at h; have := isPrime_ge h.1.1; have := isPrime_le h.1.1; omega
  · simp [ringOk, e1, e2, e3, e4, e5, e6, e7, e8] at h
end Go.Proofs.YtodooalhbcoihaaGreatDoor
