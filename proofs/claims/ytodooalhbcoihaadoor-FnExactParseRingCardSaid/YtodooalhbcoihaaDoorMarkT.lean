/- The laws' marks on slices of strings. -/
import Derived.Test.YtodooalhbcoihaaDoorStrsP
import Derived.Test.YtodooalhbcoihaaDoorFmtW
namespace Go.Proofs.YtodooalhbcoihaaDoor
open Go.RowKit
set_option linter.unusedSimpArgs false
set_option linter.unusedVariables false
open Go.Lib

/-- The mark of a number. -/
def markL (k : Nat) : List UInt8 := 109 :: decDigits k
theorem markL_len {k : Nat} (h : k ≤ 9223372036854775807) : (markL k).length ≤ 20 := by
  have := (dec_len (u := k) (by omega)).2
  rw [markL, List.length_cons]; omega
/-- The marks k, k + 1, .. -/
def marksT (k : Nat) : Nat → List ByteArray
  | 0 => []
  | n + 1 => mkS (markL k) :: marksT (k + 1) n
theorem marksT_length (k n : Nat) : (marksT k n).length = n := by
  induction n generalizing k with
  | zero => rfl
  | succ n ih => simp [marksT, ih]
theorem marksT_get (k n j : Nat) (h : j < n) : (marksT k n)[j]? = some (mkS (markL (k + j))) := by
  induction n generalizing k j with
  | zero => omega
  | succ n ih =>
    cases j with
    | zero => simp [marksT]
    | succ j =>
      simp only [marksT, List.getElem?_cons_succ]
      rw [ih (k + 1) j (by omega)]
      congr 3; omega
end Go.Proofs.YtodooalhbcoihaaDoor
