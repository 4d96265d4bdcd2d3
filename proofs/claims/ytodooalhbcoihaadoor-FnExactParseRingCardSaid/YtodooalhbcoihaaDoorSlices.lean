/- The laws' own helpers on slices of integers: toIntS, eqIntS, markIntS, heldIntS. -/
import Derived.Test.YtodooalhbcoihaaDoorOwn
import Derived.Test.YtodooalhbcoihaaDoorProg
import Derived.Deep.OwnRows
import Derived.Deep.QuietTactic
import Derived.BigQuiet
namespace Go.Proofs.YtodooalhbcoihaaDoor
open Go.RowKit
set_option linter.unusedSimpArgs false
set_option linter.unusedVariables false

theorem Tryd.infoInt : (Tryd.prog.info? 3).map (fun i => (i.zero, i.size, i.bytes)) = some (some (.int .i64 0), 1, 8) := by kernel_rfl
/-- 'make([]int, n)' -/
theorem mkInts (n : Nat) (h : n ≤ 35184372088832) (w : World) : (Instr.makeSlice 30 (.int .i64 (n : Int)) (.int .i64 (n : Int))).run Tryd.prog w =
    .ok (.slice (some ⟨w.heap.size, 0, none⟩) n n) (w.alloc (.cells (madeCells #[.int .i64 0] n) 3)) :=
  run_make_row' (P := Tryd.prog) 30 3 (.int .i64 0) 8 Tryd.underlying30 Tryd.infoInt rfl .i64 .i64 n (by omega) (by omega) w

/-- The list as it stands after j elements of src have been copied over zeroes. -/
def copied (src : List Int) (j : Nat) : List Int := src.take j ++ List.replicate (src.length - j) 0
theorem copied_zero (src : List Int) : copied src 0 = List.replicate src.length 0 := by simp [copied]
theorem copied_all (src : List Int) : copied src src.length = src := by simp [copied]
theorem copied_length (src : List Int) (j : Nat) (h : j ≤ src.length) : (copied src j).length = src.length := by simp [copied]; omega
theorem copied_set {src : List Int} {j : Nat} {x : Int} (h : src[j]? = some x) : (copied src j).set j x = copied src (j + 1) := by
  obtain ⟨hlt, rfl⟩ := List.getElem?_eq_some_iff.1 h
  have e : src.length - j = (src.length - (j + 1)) + 1 := by omega
  have e2 : (src.take j).length = j := by rw [List.length_take]; omega
  unfold copied
  rw [e, List.replicate_succ, List.set_append_right _ _ (by omega), e2, Nat.sub_self, List.set_cons_zero, List.take_succ_eq_append_getElem hlt, List.append_assoc]
  rfl
theorem ints_set (l : List Int) (j : Nat) (x : Int) : (ints l).set j (.int .i64 x) = ints (l.set j x) := by simp [ints, List.map_set]

theorem drop_len {α : Type} (l : List α) : l.drop l.length = [] := by simp
/-- k, k + 1, .., n of them. -/
def marks (k : Int) : Nat → List Int
  | 0 => []
  | n + 1 => k :: marks (k + 1) n
theorem marks_length (k : Int) (n : Nat) : (marks k n).length = n := by
  induction n generalizing k with
  | zero => rfl
  | succ n ih => simp [marks, ih]
theorem marks_get (k : Int) (n j : Nat) (h : j < n) : (marks k n)[j]? = some (k + j) := by
  induction n generalizing k j with
  | zero => omega
  | succ n ih =>
    cases j with
    | zero => simp [marks]
    | succ j =>
      simp only [marks, List.getElem?_cons_succ]
      rw [ih (k + 1) j (by omega)]
      congr 1; omega
theorem marks_drop (k : Int) (n j : Nat) (h : j < n) : (marks k n).drop j = (k + j) :: (marks k n).drop (j + 1) := by
  have hl : j < (marks k n).length := by rw [marks_length]; exact h
  rw [List.drop_eq_getElem_cons hl]
  have := marks_get k n j h
  rw [List.getElem?_eq_getElem hl] at this
  rw [Option.some.inj this]

theorem upd_take {α : Type} {xs ys : List α} {j : Nat} {a : α} (h : xs.take j = ys.take j) (hj : j < xs.length) (hy : ys[j]? = some a) : (xs.set j a).take (j + 1) = ys.take (j + 1) := by
  obtain ⟨hlt, rfl⟩ := List.getElem?_eq_some_iff.1 hy
  rw [List.take_succ_eq_append_getElem hlt, ← h, List.take_succ_eq_append_getElem (by simpa using hj)]
  simp [List.take_set]
  rw [List.set_eq_of_length_le (by rw [List.length_take]; omega)]
end Go.Proofs.YtodooalhbcoihaaDoor
