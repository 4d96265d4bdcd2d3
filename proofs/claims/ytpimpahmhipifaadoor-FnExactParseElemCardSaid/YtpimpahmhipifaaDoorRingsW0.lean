/- RingWidth, RingOk: the laws' walks. -/
import Derived.Test.YtpimpahmhipifaaDoorRings
namespace Go.Proofs.YtpimpahmhipifaaDoor
open Go.RowKit
set_option linter.unusedSimpArgs false
set_option linter.unusedVariables false

theorem toRing_any (k p n : Int) (w : World) : Calls Tryd.prog 24 #[ringV k p n] w fun e w' =>
    e = .returned (ringV k p n) ∧ Ext w w' := by
  go_enter Tryd.func24, Tryd.ntmps24
  go_wp2
  go_returns
  exact ⟨rfl, (by repeat' (first | (with_reducible exact Ext.refl _) | (with_reducible assumption) | (with_reducible apply Ext.alloc) | (with_reducible apply Ext.drew) | (with_reducible apply Ext.drewN) | (refine Ext.setAt ?_ (by omega) _ _) | (refine Ext.trans ?_ (by assumption))))⟩

/-- 'RingWidth' of a valid ring. -/
def ringWidth (k n : Int) : Int := if k = 7 then n else if k = 8 then 4 else 1

theorem rawWidth_any (k p n : Int) (w : World) : Calls Tryd.prog 68 #[ringV k p n] w fun e w' =>
    e = .returned (.int .i64 (ringWidth k n)) ∧ Ext w w' := by
  have hk : k = 7 ∨ k = 8 ∨ (¬ k = 7 ∧ ¬ k = 8) := by omega
  rcases hk with rfl | rfl | ⟨e7, e8⟩
  all_goals
    go_enter Tryd.func68, Tryd.ntmps68
    go_wp2
    go_ret
    exact ⟨ret_int (by simp [ringWidth, *]), (by repeat' (first | (with_reducible exact Ext.refl _) | (with_reducible assumption) | (with_reducible apply Ext.alloc) | (with_reducible apply Ext.drew) | (with_reducible apply Ext.drewN) | (refine Ext.setAt ?_ (by omega) _ _) | (refine Ext.trans ?_ (by assumption))))⟩
theorem l02Width_any (k p n : Int) (w : World) : Calls Tryd.prog 81 #[ringV k p n] w fun e w' =>
    e = .returned (.int .i64 (ringWidth k n)) ∧ Ext w w' := by
  have hk : k = 7 ∨ k = 8 ∨ (¬ k = 7 ∧ ¬ k = 8) := by omega
  rcases hk with rfl | rfl | ⟨e7, e8⟩
  all_goals
    go_enter Tryd.func81, Tryd.ntmps81
    go_wp2
    go_ret
    exact ⟨ret_int (by simp [ringWidth, *]), (by repeat' (first | (with_reducible exact Ext.refl _) | (with_reducible assumption) | (with_reducible apply Ext.alloc) | (with_reducible apply Ext.drew) | (with_reducible apply Ext.drewN) | (refine Ext.setAt ?_ (by omega) _ _) | (refine Ext.trans ?_ (by assumption))))⟩

/-- 'RingWidth' of any ring. -/
def ringWidthAll (k p n : Int) : Int := if ringOk k p n = true then ringWidth k n else 0
theorem ringWidthAll_ok {k p n : Int} (h : ringOk k p n = true) : ringWidthAll k p n = ringWidth k n := by simp [ringWidthAll, h]
theorem ringWidthAll_no {k p n : Int} (h : ringOk k p n = false) : ringWidthAll k p n = 0 := by simp [ringWidthAll, h]

end Go.Proofs.YtpimpahmhipifaaDoor
