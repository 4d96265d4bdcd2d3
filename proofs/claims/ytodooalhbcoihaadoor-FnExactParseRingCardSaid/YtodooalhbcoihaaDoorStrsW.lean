/- The laws' helpers on slices of strings, walked. -/
import Derived.Test.YtodooalhbcoihaaDoorStrs
import Derived.Test.YtodooalhbcoihaaDoorRows2
namespace Go.Proofs.YtodooalhbcoihaaDoor
open Go.RowKit
set_option linter.unusedSimpArgs false
set_option linter.unusedVariables false

theorem Tryd.infoStr : (Tryd.prog.info? 9).map (fun i => (i.zero, i.size, i.bytes)) = some (some (.string ByteArray.empty), 1, 16) := by kernel_rfl
/-- 'make([]string, n)' -/
theorem mkStrs (n : Nat) (h : n ≤ 1099511627776) (w : World) : (Instr.makeSlice 28 (.int .i64 (n : Int)) (.int .i64 (n : Int))).run Tryd.prog w =
    .ok (.slice (some ⟨w.heap.size, 0, none⟩) n n) (w.alloc (.cells (madeCells #[.string ByteArray.empty] n) 9)) :=
  run_make_row' (P := Tryd.prog) 28 9 (.string ByteArray.empty) 16 Tryd.underlying28 Tryd.infoStr rfl .i64 .i64 n (by omega) (by omega) w
theorem madeStrs_toList (n : Nat) : (madeCells #[.string ByteArray.empty] n).toList = List.replicate n (.string ByteArray.empty) := by
  apply List.ext_getElem?
  intro i
  by_cases h : i < n
  · simp [madeCells, h, Nat.mod_one]
  · simp [madeCells, h]

/-- Two lists of strings are equal. -/
def eqStrs : List ByteArray → List ByteArray → Bool
  | [], [] => true
  | a :: l, b :: m => (a.data.toList == b.data.toList) && eqStrs l m
  | _, _ => false
theorem eqStrs_same (l : List ByteArray) : eqStrs l l = true := by
  induction l with
  | nil => rfl
  | cons a l ih => simp [eqStrs, ih]
end Go.Proofs.YtodooalhbcoihaaDoor
