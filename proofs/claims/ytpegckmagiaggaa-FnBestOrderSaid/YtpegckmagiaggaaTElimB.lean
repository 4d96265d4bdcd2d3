/- BestWidth of the program. -/
import Derived.Test.YtpegckmagiaggaaTOrdM
import Derived.Test.YtpegckmagiaggaaTSetW
set_option linter.unusedSimpArgs false
set_option linter.unusedVariables false
namespace Go.Proofs.Ytpegckmagiaggaa
open Go.RowKit
theorem wrap_pow2 (q : Nat) (h : q ≤ 10) {P : Nat} (hP : 2 ^ q = P) : wrap64 ((2 : Int) ^ q) = (P : Int) ∧ IntKind.i64.wrap ((2 : Int) ^ q) = (P : Int) ∧ P ≤ 1024 := by
  have h2 : P ≤ 1024 := by
    have h : 2 ^ q ≤ 2 ^ 10 := Nat.pow_le_pow_right (by decide) h
    rw [hP] at h; exact h
  have e : (2 : Int) ^ q = (P : Int) := by rw [← hP, Int.natCast_pow]; rfl
  refine ⟨by rw [← hP]; exact wrap_pow q (by omega), ?_, h2⟩
  rw [e, IntKind.wrap_i64]
  clear e hP
  omega
end Go.Proofs.Ytpegckmagiaggaa
