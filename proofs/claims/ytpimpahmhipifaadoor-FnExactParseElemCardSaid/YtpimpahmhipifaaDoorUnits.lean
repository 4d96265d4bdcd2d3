/- The zero and the one of a ring, of the program and of the reference. -/
import Derived.Test.YtpimpahmhipifaaDoorElem
namespace Go.Proofs.YtpimpahmhipifaaDoor
open Go.RowKit
set_option linter.unusedSimpArgs false
set_option linter.unusedVariables false

/-- 'make([]int, m)', m an int. -/
theorem mkIntsI (m : Int) (h0 : 0 ≤ m) (h : m ≤ 35184372088832) (w : World) : (Instr.makeSlice 35 (.int .i64 m) (.int .i64 m)).run Tryd.prog w =
    .ok (.slice (some ⟨w.heap.size, 0, none⟩) m.toNat m.toNat) (w.alloc (.cells (madeCells #[.int .i64 0] m.toNat) 3)) := by
  have := mkInts m.toNat (by omega) w
  rwa [Int.toNat_of_nonneg h0] at this
theorem made_get {n j : Nat} (h : j < n) : (madeCells #[.int .i64 0] n)[j]? = some (.int .i64 0) := by simp [madeCells, h, Nat.mod_one]

/-- The ring's numbers and its width. -/
structure RingWide (k n : Int) : Prop where
  lo : 1 ≤ ringWidth k n
  hi : ringWidth k n ≤ 6
theorem ringOk_wide {k p n : Int} (h : ringOk k p n = true) : RingWide k n := by
  rcases kinds k with rfl | rfl | rfl | rfl | rfl | rfl | rfl | rfl | ⟨e1, e2, e3, e4, e5, e6, e7, e8⟩
  all_goals simp [ringOk, *] at h
  all_goals constructor
  all_goals simp [ringWidth]
  · exact h.1.2
  · exact h.2

/-- The zero. -/
def zeroL (k p n : Int) : List Int := if k = 4 then (List.replicate (ringWidth k n).toNat 0).set 0 p else List.replicate (ringWidth k n).toNat 0
/-- The first integer of the one. -/
def unit (k p n : Int) : Int := if k = 4 then 0 else if k = 5 then p else if k = 6 then 2 ^ n.toNat - 1 else 1
/-- The one. -/
def oneL (k p n : Int) : List Int := (List.replicate (ringWidth k n).toNat 0).set 0 (unit k p n)
theorem zeroL_length (k p n : Int) : (zeroL k p n).length = (ringWidth k n).toNat := by unfold zeroL; split <;> simp
theorem oneL_length (k p n : Int) : (oneL k p n).length = (ringWidth k n).toNat := by simp [oneL]

/-- A made block with its first cell set. -/
theorem blk_made_set (w : World) (n : Nat) (x : Int) (b : Nat) (hb : b = w.heap.size) : Blk (w.alloc (.cells ((madeCells #[.int .i64 0] n).setIfInBounds 0 (.int .i64 x)) 3)) b 3 (ints ((List.replicate n 0).set 0 x)) := by
  subst hb
  have := Blk.new w ((madeCells #[.int .i64 0] n).setIfInBounds 0 (.int .i64 x)) 3
  rwa [Array.toList_setIfInBounds, made_zero, ints_set] at this
theorem blk_made (w : World) (n : Nat) (b : Nat) (hb : b = w.heap.size) : Blk (w.alloc (.cells (madeCells #[.int .i64 0] n) 3)) b 3 (ints (List.replicate n 0)) := by
  subst hb
  have := Blk.new w (madeCells #[.int .i64 0] n) 3
  rwa [made_zero] at this

theorem fits (m : Int) (h : m ≤ 6) : m.toNat ≤ maxLen := by unfold maxLen; omega
theorem unit_one {k p n : Int} (h4 : ¬ k = 4) (h5 : ¬ k = 5) (h6 : ¬ k = 6) : unit k p n = 1 := by simp [unit, h4, h5, h6]
end Go.Proofs.YtpimpahmhipifaaDoor
