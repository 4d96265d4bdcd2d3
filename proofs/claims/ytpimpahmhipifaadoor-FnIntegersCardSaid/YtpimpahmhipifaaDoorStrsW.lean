/- The laws' helpers on slices of strings, walked. -/
import Derived.Test.YtpimpahmhipifaaDoorStrs
import Derived.Test.YtpimpahmhipifaaDoorRows2
namespace Go.Proofs.YtpimpahmhipifaaDoor
open Go.RowKit
set_option linter.unusedSimpArgs false
set_option linter.unusedVariables false

theorem Tryd.infoStr : (Tryd.prog.info? 9).map (fun i => (i.zero, i.size, i.bytes)) = some (some (.string ByteArray.empty), 1, 16) := by kernel_rfl
/-- 'make([]string, n)' -/
theorem mkStrs (n : Nat) (h : n ≤ 1099511627776) (w : World) : (Instr.makeSlice 24 (.int .i64 (n : Int)) (.int .i64 (n : Int))).run Tryd.prog w =
    .ok (.slice (some ⟨w.heap.size, 0, none⟩) n n) (w.alloc (.cells (madeCells #[.string ByteArray.empty] n) 9)) :=
  run_make_row' (P := Tryd.prog) 24 9 (.string ByteArray.empty) 16 Tryd.underlying24 Tryd.infoStr rfl .i64 .i64 n (by omega) (by omega) w
theorem madeStrs_toList (n : Nat) : (madeCells #[.string ByteArray.empty] n).toList = List.replicate n (.string ByteArray.empty) := by
  apply List.ext_getElem?
  intro i
  by_cases h : i < n
  · simp [madeCells, h, Nat.mod_one]
  · simp [madeCells, h]

/-- Two lists of strings are equal. -/
def eqStrs : List ByteArray → List ByteArray → Bool
  | [], [] => true
  | a :: l, b :: m => (a.data.toList == b.data.toList) && eqStrs l m
  | _, _ => false
theorem eqStrs_same (l : List ByteArray) : eqStrs l l = true := by
  induction l with
  | nil => rfl
  | cons a l ih => simp [eqStrs, ih]
set_option maxHeartbeats 400000 in
theorem eqStringS_same (v u : Value) (l : List ByteArray) (w : World) (hl : StrS w v l) (hm : StrS w u l) : Calls Tryd.prog 18 #[v, u] w fun e w' =>
    e = .returned (.bool true) ∧ Ext w w' := by
  obtain ⟨a, cap, rfl, hc1, hc2⟩ := hl.val
  obtain ⟨a2, cap2, rfl, hc3, hc4⟩ := hm.val
  go_enter Tryd.func18, Tryd.ntmps18
  go_wp2
  go_loopw [5] (fun i wr => ∃ j : Nat, j ≤ l.length ∧ i = .int .i64 j ∧ Ext w wr) (fun i _ => l.length - (intOf i).toNat)
  case atStart => exact ⟨0, Nat.zero_le _, rfl, (by repeat' (first | (with_reducible exact Ext.refl _) | (with_reducible assumption) | (with_reducible apply Ext.alloc) | (with_reducible apply Ext.drew) | (with_reducible apply Ext.drewN) | (refine Ext.setAt ?_ (by omega) _ _) | (refine Ext.trans ?_ (by assumption))))⟩
  case round =>
    obtain ⟨j, hj, rfl, hE⟩ := hrel
    by_cases hlt : j < l.length
    · obtain ⟨b, off, x, rfl, hcell, hx, _⟩ := (hl.ext hE).get hlt
      obtain ⟨b2, off2, y, rfl, hcell2, hy, _⟩ := (hm.ext hE).get hlt
      rw [hx] at hy
      obtain rfl := Option.some.inj hy
      clear hy hx
      go_wp2
      go_quiet (fail)
      go_wp2
      go_roundw
      case rel => exact ⟨j + 1, by omega, by go_num, (by repeat' (first | (with_reducible exact Ext.refl _) | (with_reducible assumption) | (with_reducible apply Ext.alloc) | (with_reducible apply Ext.drew) | (with_reducible apply Ext.drewN) | (refine Ext.setAt ?_ (by omega) _ _) | (refine Ext.trans ?_ (by assumption))))⟩
      case measure => simp [intOf]; omega
    · have : j = l.length := by omega
      subst this
      go_wp2
      go_ret
      exact ⟨rfl, (by repeat' (first | (with_reducible exact Ext.refl _) | (with_reducible assumption) | (with_reducible apply Ext.alloc) | (with_reducible apply Ext.drew) | (with_reducible apply Ext.drewN) | (refine Ext.setAt ?_ (by omega) _ _) | (refine Ext.trans ?_ (by assumption))))⟩
end Go.Proofs.YtpimpahmhipifaaDoor
