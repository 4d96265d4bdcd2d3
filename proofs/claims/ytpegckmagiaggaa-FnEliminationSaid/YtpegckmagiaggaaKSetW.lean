/- rawSetLabels, SetLabels of the program. -/
import Derived.Test.YtpegckmagiaggaaKG15
set_option linter.unusedSimpArgs false
set_option linter.unusedVariables false
namespace Go.Proofs.Ytpegckmagiaggaa
open Go.RowKit
theorem bit_and1 (s j : Nat) (hs : s < 1099511627776) : bits .and .i64 ((s : Int) / 2 ^ j) 1 = if s.testBit j = true then 1 else 0 := by
  have e1 : ((s : Int) / 2 ^ j) = ((s / 2 ^ j : Nat) : Int) := by
    rw [Int.natCast_ediv, Int.natCast_pow]; rfl
  have hlt : s / 2 ^ j < 1099511627776 := Nat.lt_of_le_of_lt (Nat.div_le_self _ _) hs
  have h := bits_mask .i64 62 (by decide) (fun n h0 h1 => by rw [IntKind.wrap_i64]; omega) 1 (by decide) ((s / 2 ^ j : Nat) : Int) (Int.natCast_nonneg _) (by omega)
  rw [e1]
  have h2 : bits .and .i64 ((s / 2 ^ j : Nat) : Int) 1 = ((s / 2 ^ j : Nat) : Int) % 2 := h
  rw [h2, Nat.testBit_eq_decide_div_mod_eq]
  by_cases e : s / 2 ^ j % 2 = 1
  · simp [e]; omega
  · simp [e]; omega
theorem wrap_pow (m : Nat) (h : m ≤ 12) : wrap64 ((2 : Int) ^ m) = ((2 ^ m : Nat) : Int) := by
  have : 2 ^ m ≤ 4096 := Nat.pow_le_pow_right (n := 2) (by decide) h
  have e : (2 : Int) ^ m = ((2 ^ m : Nat) : Int) := by rw [Int.natCast_pow]; rfl
  rw [e]
  generalize 2 ^ m = M at this
  simp only [wrap64]
  omega
end Go.Proofs.Ytpegckmagiaggaa
